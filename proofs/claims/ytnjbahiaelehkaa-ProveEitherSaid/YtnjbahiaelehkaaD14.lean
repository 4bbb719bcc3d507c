/- Clone of lines, as Model and the changes use it. Model of package prove. -/
import Derived.Test.YtnjbahiaelehkaaC6
import Derived.Test.YtnjbahiaelehkaaD6
import Derived.Test.YtnjbahiaelehkaaM7
import Derived.Test.YtnjbahiaelehkaaA19
namespace Go.Proofs.Ytnjbahiaelehkaa
open Go.RowKit


/-- What a call returns that makes lines. -/
def OwnP (l : List AM) (w : World) (e : Ending) (w' : World) : Prop := Below w.heap.size w w' ∧ ∃ v', e = .returned v' ∧ OwnL w' w.heap.size v' l
set_option maxRecDepth 100000 in
set_option maxHeartbeats 1000000 in
theorem clone_lines (l : List AM) (a : Option Addr) (cap : Nat) (w : World) (hl : Rd w a l) (hlen : l.length ≤ 1000000) :
    Calls Try.prog 82 #[.slice a l.length cap] w (OwnP l w) := by
  obtain ⟨i0, hi, hz0, hz1, hz2⟩ := info_parts info24
  cases a with
  | none =>
    have hl0 : l = [] := by
      cases l with
      | nil => rfl
      | cons x l =>
        obtain ⟨b, off, e, _⟩ := hl 0 (Nat.succ_pos _)
        cases e
    subst hl0
    refine (AnyE.slices_Clone_nil Try.lays82 0 cap w).mono ?_
    rintro e w' ⟨rfl, rfl⟩
    exact ⟨Below.refl _ _, _, rfl, rfl, .inl ⟨rfl, rfl⟩⟩
  | some ad =>
    have HL := hid hl
    clear hl
    have q22 : ∀ (w : World) (a : Option Addr) (n c n' c' : Nat), (binOp .eql 22 (.slice a n c) (.slice none n' c')).run Try.prog w = .ok (.bool a.isNone) w := fun w a n c n' c' => Lib.run_eql_slice_nil w _ _ a n c n' c' Try.underlying22
    go_enter Try.func82, Try.ntmps82
    go_wp2_with (at_builtin; (refine wpList_append_lines _ rfl _ _ rfl w.heap.size _ [] l rfl (.none (Nat.le_refl _) (heapn _ _ _ rfl)) (some ad) cap rfl (HL.out.below (bnew _ _)) (by simp; omega) (by simp) ?_); intro v' w3 hown hgr hat)
    go_ret
    exact ⟨Below.grown (bnew _ _) hgr (by simp) (by intro q hq; cases hq; exact Nat.le_refl _), _, rfl, by simpa using hown⟩


noncomputable def modelL (l : List AM) (k : Nat) : List Int := (List.range k).map (modelX l)
theorem modelL_len (l : List AM) (k : Nat) : (modelL l k).length = k := by simp [modelL]
theorem modelL_succ (l : List AM) (k : Nat) : modelL l (k + 1) = modelL l k ++ [modelX l k] := by unfold modelL; rw [List.range_succ, List.map_append]; rfl
/-- What Model returns. -/
def ModP (N : Nat) (l : List AM) (w : World) (e : Ending) (w' : World) : Prop := Below w.heap.size w w' ∧ ∃ v, e = .returned (.tuple #[v, .int .i64 0]) ∧ OwnI w' w.heap.size v (modelL l N) ∧ MdI l N N
theorem cell_ten_new (w : World) (x y : AM) (t : TypeId) : ∀ j u, (c5 x ++ c5 y)[j]? = some u → (w.alloc (.cells (c5 x ++ c5 y).toArray t)).cell? ((⟨w.heap.size, 0, none⟩ : Addr).add j) = some u := by
  intro j u hj
  have e : (⟨w.heap.size, 0, none⟩ : Addr).add j = ⟨w.heap.size, j, none⟩ := by
    unfold Addr.add
    by_cases h0 : j = 0
    · subst h0; simp
    · simp [h0]
  rw [e, celln _ _ _ _ _ rfl]
  simpa using hj

theorem own_apart {w : World} {base base' : Nat} {e e' : TypeId} {sz sz' : Nat} {v v' : Value} {n n' : Nat} {xs xs' : List Value} (he : e ≠ e') (h : w.ownsRow base e sz v n xs) (h' : w.ownsRow base' e' sz' v' n' xs') : ∀ g, v.ownBlock = some g → v'.ownBlock ≠ some g := by
  intro g hg hg'
  rcases h.2 with ⟨rfl, _⟩ | ⟨g1, cap, cur, rfl, _, hh, _⟩
  · cases hg
  rcases h'.2 with ⟨rfl, _⟩ | ⟨g2, cap', cur', rfl, _, hh', _⟩
  · cases hg'
  have e1 : g1 = g := by simpa [Value.ownBlock] using hg
  have e2 : g2 = g := by simpa [Value.ownBlock] using hg'
  subst e1
  subst e2
  rw [hh] at hh'
  cases hh'
  exact he rfl
theorem own_grown {w w' : World} {base : Nat} {e : TypeId} {sz : Nat} {v : Value} {n : Nat} {xs : List Value} {b : Option Nat} (h : w.ownsRow base e sz v n xs) (hg : w.grownBy w' b) (hne : ∀ g, v.ownBlock = some g → b ≠ some g) : w'.ownsRow base e sz v n xs := by
  refine ⟨h.1, ?_⟩
  rcases h.2 with h0 | ⟨g, cap, cur, rfl, hb, hh, h1⟩
  · exact .inl h0
  · exact .inr ⟨g, cap, cur, rfl, hb, by rw [hg.block g (lt_of_heap hh) (fun e => hne g rfl e.symm)]; exact hh, h1⟩
theorem pin_bound2 {l : List AM} {N k : Nat} (h : (pinL l k).length = l.length + 2 * k) (hl : l.length ≤ 40) (hk : k ≤ 12) (_ : N = N) : (pinL l k).length ≤ 64 := by omega
/-- What the two ends are put into. -/
def CutM (x y : Int) (px py : Option Addr) (w : World) (s12 s13 : Value) (wx : World) : Prop := ∃ b1 b2 : Nat, s12 = .pointer (some ⟨b1, 0, none⟩) ∧ s13 = .pointer (some ⟨b2, 0, none⟩) ∧
  wx.heap[b1]? = some (.cells #[.int .i64 x, .pointer px] 102 (0, 0)) ∧ wx.heap[b2]? = some (.cells #[.int .i64 y, .pointer py] 102 (0, 0)) ∧ Below w.heap.size w wx
theorem cutM1 (x y : Int) (px py : Option Addr) (w : World) : CutM x y px py w (.pointer (some ⟨w.heap.size, 0, none⟩)) (.pointer (some ⟨w.heap.size + 1, 0, none⟩)) ((w.alloc (.cells #[.int .i64 x, .pointer px] 102)).alloc (.cells #[.int .i64 y, .pointer py] 102)).drew :=
  ⟨_, _, rfl, rfl, by simp only [heap_drew, heap_alloc_if, World.size_alloc] <;> simp, by simp only [heap_drew, heap_alloc_if, World.size_alloc] <;> simp, (bmore (bnew _ _) _).drew⟩
theorem cutM2 (x y : Int) (px py : Option Addr) (w : World) : CutM x y px py w (.pointer (some ⟨w.heap.size + 1, 0, none⟩)) (.pointer (some ⟨w.heap.size, 0, none⟩)) ((w.alloc (.cells #[.int .i64 y, .pointer py] 102)).alloc (.cells #[.int .i64 x, .pointer px] 102)).drew :=
  ⟨_, _, rfl, rfl, by simp only [heap_drew, heap_alloc_if, World.size_alloc] <;> simp, by simp only [heap_drew, heap_alloc_if, World.size_alloc] <;> simp, (bmore (bnew _ _) _).drew⟩
theorem modelX_of {l : List AM} {k : Nat} {x y : Int} (r1 : (x = FF ∧ maxO (pinL l k) (lo0 k) = none) ∨ (x ≠ FF ∧ maxO (pinL l k) (lo0 k) = some x)) (r2 : (y = FF ∧ maxO (pinL l k) (hi0 k) = none) ∨ (y ≠ FF ∧ maxO (pinL l k) (hi0 k) = some y)) :
    (x ≠ FF → modelX l k = -x) ∧ (x = FF → y ≠ FF → modelX l k = y) ∧ (x = FF → y = FF → modelX l k = 0) := by
  unfold modelX pinV
  refine ⟨fun hx => ?_, fun hx hy => ?_, fun hx hy => ?_⟩
  · rcases r1 with ⟨h, _⟩ | ⟨_, h⟩
    · exact absurd h hx
    · rw [h]
  · rcases r1 with ⟨_, h⟩ | ⟨h, _⟩
    · rw [h]
      rcases r2 with ⟨h2, _⟩ | ⟨_, h2⟩
      · exact absurd h2 hy
      · rw [h2]
    · exact absurd hx h
  · rcases r1 with ⟨_, h⟩ | ⟨h, _⟩
    · rw [h]
      rcases r2 with ⟨_, h2⟩ | ⟨h2, _⟩
      · rw [h2]
      · exact absurd hy h2
    · exact absurd hx h

theorem own_base2 {w : World} {base base' : Nat} {e : TypeId} {sz : Nat} {v : Value} {n : Nat} {xs : List Value} (h : w.ownsRow base e sz v n xs) (hb : base' ≤ base) : w.ownsRow base' e sz v n xs := by
  refine ⟨h.1, ?_⟩
  rcases h.2 with h | ⟨g, cap, cur, h1, hg, h2⟩
  · exact .inl h
  · exact .inr ⟨g, cap, cur, h1, by omega, h2⟩
theorem OwnL_mono {w : World} {base base' : Nat} {v : Value} {l : List AM} (h : OwnL w base v l) (hb : base' ≤ base) : OwnL w base' v l := own_base2 h hb
set_option maxRecDepth 100000 in
set_option maxHeartbeats 8000000 in
theorem model_yes (N : Nat) (hN1 : 1 ≤ N) (hN : N ≤ 12) (l : List AM) (a : Option Addr) (cap : Nat) (w : World) (hc : checkN N l = 0) (hp : possB l = true) (hl : Rd w a l) (hlen : l.length ≤ 40) :
    Calls Try.prog 37 #[.int .i64 N, .slice a l.length cap] w (ModP N l w) := by
  have HL := hid hl; clear hl
  have HC := hid hc
  obtain ⟨_, _, hrs⟩ := checkN_in hc
  have HOK := hid (rights_ok hrs)
  have HP := hid hp
  clear hc hrs hp
  obtain ⟨i0, hi, hz0, hz1, hz2⟩ := info_parts info3
  obtain ⟨i4, hj4, hy0, hy1, hy2⟩ := info_parts info24
  go_enter Try.func37, Try.ntmps37
  go_upto_region 4 with (go_at_call 31; (with_reducible refine (check_any _ l a cap _ HL.out (by omega)).mono ?_); rw [HC.out]; rintro e w1 ⟨rfl, hb⟩; have HB := hid hb; clear hb)
  go_upto_region 6 with (go_at_call 57; (with_reducible refine (shut_any N hN _ l a cap 1000000 HOK.out hM6 hF6 (HL.out.below HB.out) (by omega)).mono ?_); rintro e w2 ⟨hb, C, M, no, tp, ty, D, T, rfl, cv, hm, hbd, hor⟩; obtain rfl := no_none HOK.out HP.out hor; have hfd := field105 C (.pointer none) cv.no; have HF := hid (hor.resolve_left (by rintro ⟨d, X, h, _⟩; cases h)); have HB := hid (HB.out.step hb); clear hb cv hm hbd hor)
  obtain ⟨hN2, hfin, htight, _⟩ := HF.out
  have H1 := hid (And.intro hfin htight)
  have HM0 := hid (MdI.start HOK.out (possB_iff.1 HP.out))
  clear HF hfin htight hfd hN2
  go_wp2_with (go_at_call 82; (with_reducible refine (clone_lines l a cap _ (HL.out.below HB.out) (by omega)).mono ?_); rintro e w3 ⟨hb, v, rfl, hown⟩; have HO := hid (OwnL_mono hown HB.out.size); have HB := hid (HB.out.step hb); clear hb hown)
  go_loopg [7, 8, 28] N (fun gh s7 s8 s28 wr => ∃ k : Nat, k ≤ N ∧ gh = N - k ∧ s28 = .int .i64 k ∧ Hid (OwnL wr w.heap.size s7 (pinL l k) ∧ OwnI wr w.heap.size s8 (modelL l k) ∧ Below w.heap.size w wr ∧ MdI l N k))
  case atStart => exact ⟨0, Nat.zero_le _, rfl, rfl, hid ⟨HO.out, OwnI.nil _ _, HB.out, HM0.out⟩⟩
  case round =>
    clear HB HO HM0
    obtain ⟨k, hk, rfl, rfl, HW⟩ := hrel
    by_cases hlt : k < N
    · have hln : (pinL l k).length ≤ 64 := by have := HW.out.2.2.2.len; omega
      obtain ⟨a7, c7, hv7, hr7⟩ := HW.out.1.rd
      have HV7 := hid hv7
      have HB := hid HW.out.2.2.1
      obtain ⟨L, hL⟩ : ∃ L, L = pinL l k := ⟨_, rfl⟩
      have HLE := hid hL
      have HOL : Hid (OwnL wr w.heap.size u7 L) := hid (by rw [hL]; exact HW.out.1)
      have HOI := hid HW.out.2.1
      have HM := hid HW.out.2.2.2
      have HRL : Hid (Rd wr a7 L) := hid (by rw [hL]; exact hr7)
      rw [← hL] at hln hv7
      have hpo : possB L = true := by rw [hL]; exact possB_iff.2 HM.out.poss
      have HPO := hid hpo
      have HOK2 : Hid (∀ a, a ∈ L → Ok N 560000000 a) := hid (by rw [hL]; exact HM.out.ok)
      clear HW hr7 hL hpo HV7
      subst hv7
      have hF5 : (100 : Int) * 560000000 < FF := by decide
      have hM5 : (0 : Int) ≤ 560000000 := by decide
      have H5 := hid (And.intro hM5 hF5)
      clear hM5 hF5
      go_upto_region 11 with fail
      go_cut [10] (fun s10 wx => ∃ c : Nat, s10 = .pointer (some ⟨c, 0, none⟩) ∧ ShutAt L N 560000000 c wx ∧ Below wr.heap.size wr wx)
      case first =>
        go_wp2_with (first | (go_at_call 57; refine (shut_any N hN _ L a7 c7 560000000 HOK2.out H5.out.1 H5.out.2 HRL.out (by omega)).mono ?_; rintro e w2 ⟨hb2, C, M, no, tp, ty, D, T, rfl, cv, hm, hbd, hor⟩; have HX := hid (And.intro hb2 (And.intro cv (And.intro hm (And.intro hbd hor)))); clear hb2 cv hm hbd hor) | (refine wpList_store_row rfl 105 (.tmp 10) (.tmp 33) rfl _ C rfl rfl 105 _ (heapn _ _ _ rfl) (by rw [HX.out.2.1.size]; exact size105) (by rw [HX.out.2.1.size]; rfl) HX.out.2.1.one ?_))
        go_meet
        obtain ⟨hb2, cv, hm, hbd, hor⟩ := HX.out
        exact ⟨_, rfl, ShutAt.new cv hm hbd hor, hb2.step newRow_below⟩
      case rest =>
        obtain ⟨c, rfl, ⟨C, M, no, tp, ty, D, T, hrow, cv, hm, hbd, hor⟩, hb3⟩ := hcut
        have hcs : CS wc c N M no tp ty := ⟨C, hrow, cv⟩
        obtain rfl := no_none HOK2.out HPO.out hor
        have hfine := hor.resolve_left (by rintro ⟨d, X, h, _⟩; cases h)
        have HOL := hid (own_below HOL.out hb3)
        have HOI := hid (own_below HOI.out hb3)
        have HB := hid (HB.out.step hb3)
        have hi1 : nd (k : Int) (-1) < 24 := nd_lt24 hN (by omega) (by omega)
        have hi2 : nd (k : Int) 1 < 24 := nd_lt24 hN (by omega) (by omega)
        have hi1' : ((nd (k : Int) (-1) : Nat) : Int) < 24 := by omega
        have hi2' : ((nd (k : Int) 1 : Nat) : Int) < 24 := by omega
        have hlc := hcs.lt
        have q1 := hcs.most hi1
        have q2 := hcs.most hi2
        have q3 := hcs.why hi1
        have q4 := hcs.why hi2
        have r1 := of_res H5.out.1 hN H5.out.2 ⟨hfine.2.1, hfine.2.2.1, hfine.2.2.2⟩ (span_ok (by omega) (by omega) (.inr rfl) : Ok N 1000000 ⟨k, -1, 0, 0, 0⟩)
        have r2 := of_res H5.out.1 hN H5.out.2 ⟨hfine.2.1, hfine.2.2.1, hfine.2.2.2⟩ (span_ok (by omega) (by omega) (.inl rfl) : Ok N 1000000 ⟨k, 1, 0, 0, 0⟩)
        simp only [ofM, if_true] at r1 r2
        obtain ⟨bx1, bx2⟩ := hbd _ hi1
        obtain ⟨by1, by2⟩ := hbd _ hi2
        have HST := hid (MdI.step HM.out hF6 hN hlt H1.out.1 H1.out.2 (F := FF) (by rw [← HLE.out]; exact hfine.2.1) hfine.2.2.1)
        generalize tp (nd (k : Int) (-1)) = x at *
        generalize tp (nd (k : Int) 1) = y at *
        generalize ty (nd (k : Int) (-1)) = px at *
        generalize ty (nd (k : Int) 1) = py at *
        rw [HLE.out] at r1 r2
        have HMX := hid (modelX_of r1 r2)
        clear r1 r2 hcs hrow cv hm hbd hor hfine hb3
        unfold FF at bx1 bx2 by1 by2
        go_upto_region 13 with fail
        go_cut [12, 13] (fun s12 s13 wx => CutM x y px py wc s12 s13 wx)
        case first =>
          go_region_held3 (fun w' => w'.cell? ⟨c, 2 + nd (k : Int) (-1) * 2, none⟩ = some (.int .i64 x) ∧ w'.cell? ⟨c, 2 + nd (k : Int) (-1) * 2 + 1, none⟩ = some (.pointer px) ∧ w'.cell? ⟨c, 2 + nd (k : Int) 1 * 2, none⟩ = some (.int .i64 y) ∧ w'.cell? ⟨c, 2 + nd (k : Int) 1 * 2 + 1, none⟩ = some (.pointer py)) (go_keep)
            ((go_at_call 63; first | ((with_reducible refine (end_any k (-1) (by omega) (by omega) _).mono ?_); rintro e w' ⟨rfl, rfl⟩) | ((with_reducible refine (end_any k 1 (by omega) (by omega) _).mono ?_); rintro e w' ⟨rfl, rfl⟩)))
          all_goals
            go_wp2_with fail
            go_meet
            first
              | exact cutM1 x y px py _
              | exact cutM2 x y px py _
        case rest =>
          obtain ⟨b1, b2, rfl, rfl, g1, g2, hb4⟩ := hcut
          obtain ⟨j0, _, _, _⟩ := box2 g1
          obtain ⟨j1, _, _, _⟩ := box2 g2
          have HOL := hid (own_below HOL.out hb4)
          have HOI := hid (own_below HOI.out hb4)
          have HB := hid (HB.out.step hb4)
          clear q1 q2 q3 q4 hlc g1 g2 hb4 hi1 hi2 hi1' hi2'
          by_cases hx : x = FF
          · have tx : decide (x < 1152921504606846976) = false := by simp; unfold FF at hx; omega
            by_cases hy : y = FF
            · have ty' : decide (y < 1152921504606846976) = false := by simp; unfold FF at hy; omega
              have HV := hid (HMX.out.2.2 hx hy)
              clear hx hy
              have HV' := hid HV.out
              have hoi := HOI.out
              unfold OwnI at hoi
              rw [modelL_len] at hoi
              have hol := HOL.out
              have hap := own_apart (by decide : (24 : TypeId) ≠ 3) hol hoi
              have HAP := hid hap
              have HHOI := hid hoi
              have HHOL := hid hol
              have hbz := HB.out.size
              clear hoi hol hap
              go_upto_region 18 with fail
              go_upto_region 19 with (at_builtin; refine wpList_append_own _ rfl _ _ 46 rfl w.heap.size 3 i0 (.int .i64 0) 1 8 Try.underlying46 hi hz0 hz1 hz2 rfl (by decide) _ _ _ rfl (HHOI.out.alloc _) ⟨wc.heap.size, 0, none⟩ 1 1 [.int .i64 (0)] rfl rfl (cell_one_new _ _ _) (by intro u hu; simp at hu; subst hu; rfl) (by unfold maxLen; omega) (by omega) (by simp; omega) ?_; intro v8 w3 hown' hgrow hnil)
              have HOI3 : Hid (OwnI w3 w.heap.size v8 (modelL l (k + 1))) := hid (by unfold OwnI; rw [modelL_len, modelL_succ, List.map_append, HV.out]; exact hown')
              have HOL3 : Hid (OwnL w3 w.heap.size (Value.slice a7 L.length c7) L) := hid (own_grown (own_below HHOL.out (bnew _ _)) hgrow HAP.out)
              have HB3 := hid ((HB.out.alloc hbz (.cells #[.int .i64 (0)] 3)).grown hgrow (by simp; omega) (own_ge HHOI.out))
              have hbz3 := HB3.out.size
              clear hown' hgrow hnil
              go_wp2_with (at_builtin; refine wpList_append_own _ rfl _ _ 22 rfl w.heap.size 24 i4 _ 5 40 Try.underlying22 hj4 hy0 hy1 hy2 rfl (by decide) _ _ _ rfl (HOL3.out.alloc _) ⟨w3.heap.size, 0, none⟩ 2 2 (c5 ⟨k, 1, 0, 0, 0⟩ ++ c5 ⟨k, -1, 0, 0, 0⟩) rfl rfl (cell_ten_new w3 ⟨k, 1, 0, 0, 0⟩ ⟨k, -1, 0, 0, 0⟩ 24) (by intro u hu; simp [c5] at hu; rcases hu with rfl | rfl | rfl | rfl | rfl | rfl | rfl | rfl | rfl | rfl <;> rfl) (by unfold maxLen; omega) (by omega) (by simp; omega) ?_; intro v2 w4 hown2 hgrow2 hnil2)
              have hap3 := own_apart (by decide : (3 : TypeId) ≠ 24) HOI3.out HOL3.out
              have hoi4 : OwnI w4 w.heap.size v8 (modelL l (k + 1)) := own_grown (own_below HOI3.out (bnew _ _)) hgrow2 hap3
              have hol4 : OwnL w4 w.heap.size v2 (pinL l (k + 1)) := by
                show OwnL w4 w.heap.size v2 (pinL l k ++ [⟨k, 1, 0, 0, modelX l k⟩, ⟨k, -1, 0, 0, -(modelX l k)⟩])
                rw [HV.out, ← HLE.out]
                unfold OwnL
                rw [List.length_append, List.flatMap_append]
                have e : -(0) = 0 := by omega
                rw [e]
                simpa using hown2
              have hb4 := (HB3.out.alloc hbz3 (.cells (c5 ⟨k, 1, 0, 0, 0⟩ ++ c5 ⟨k, -1, 0, 0, 0⟩).toArray 24)).grown hgrow2 (by simp; omega) (own_ge HOL3.out)
              have H4 := hid (And.intro hol4 (And.intro hoi4 hb4))
              clear hol4 hoi4 hb4 hap3 hown2 hgrow2 hnil2
              go_roundg (N - (k + 1))
              case rel => exact ⟨k + 1, by omega, by omega, by go_num, hid ⟨H4.out.1, H4.out.2.1, H4.out.2.2, HST.out⟩⟩
              case measure => omega
            · have ty' : decide (y < 1152921504606846976) = true := by simp; unfold FF at hy; omega
              have HV := hid (HMX.out.2.1 hx hy)
              clear hx hy
              have HV' := hid HV.out
              have hoi := HOI.out
              unfold OwnI at hoi
              rw [modelL_len] at hoi
              have hol := HOL.out
              have hap := own_apart (by decide : (24 : TypeId) ≠ 3) hol hoi
              have HAP := hid hap
              have HHOI := hid hoi
              have HHOL := hid hol
              have hbz := HB.out.size
              clear hoi hol hap
              go_upto_region 18 with fail
              go_upto_region 19 with (at_builtin; refine wpList_append_own _ rfl _ _ 46 rfl w.heap.size 3 i0 (.int .i64 0) 1 8 Try.underlying46 hi hz0 hz1 hz2 rfl (by decide) _ _ _ rfl (HHOI.out.alloc _) ⟨wc.heap.size, 0, none⟩ 1 1 [.int .i64 (y)] rfl rfl (cell_one_new _ _ _) (by intro u hu; simp at hu; subst hu; rfl) (by unfold maxLen; omega) (by omega) (by simp; omega) ?_; intro v8 w3 hown' hgrow hnil)
              have HOI3 : Hid (OwnI w3 w.heap.size v8 (modelL l (k + 1))) := hid (by unfold OwnI; rw [modelL_len, modelL_succ, List.map_append, HV.out]; exact hown')
              have HOL3 : Hid (OwnL w3 w.heap.size (Value.slice a7 L.length c7) L) := hid (own_grown (own_below HHOL.out (bnew _ _)) hgrow HAP.out)
              have HB3 := hid ((HB.out.alloc hbz (.cells #[.int .i64 (y)] 3)).grown hgrow (by simp; omega) (own_ge HHOI.out))
              have hbz3 := HB3.out.size
              clear hown' hgrow hnil
              go_wp2_with (at_builtin; refine wpList_append_own _ rfl _ _ 22 rfl w.heap.size 24 i4 _ 5 40 Try.underlying22 hj4 hy0 hy1 hy2 rfl (by decide) _ _ _ rfl (HOL3.out.alloc _) ⟨w3.heap.size, 0, none⟩ 2 2 (c5 ⟨k, 1, 0, 0, y⟩ ++ c5 ⟨k, -1, 0, 0, -y⟩) rfl rfl (cell_ten_new w3 ⟨k, 1, 0, 0, y⟩ ⟨k, -1, 0, 0, -y⟩ 24) (by intro u hu; simp [c5] at hu; rcases hu with rfl | rfl | rfl | rfl | rfl | rfl | rfl | rfl | rfl | rfl <;> rfl) (by unfold maxLen; omega) (by omega) (by simp; omega) ?_; intro v2 w4 hown2 hgrow2 hnil2)
              have hap3 := own_apart (by decide : (3 : TypeId) ≠ 24) HOI3.out HOL3.out
              have hoi4 : OwnI w4 w.heap.size v8 (modelL l (k + 1)) := own_grown (own_below HOI3.out (bnew _ _)) hgrow2 hap3
              have hol4 : OwnL w4 w.heap.size v2 (pinL l (k + 1)) := by
                show OwnL w4 w.heap.size v2 (pinL l k ++ [⟨k, 1, 0, 0, modelX l k⟩, ⟨k, -1, 0, 0, -(modelX l k)⟩])
                rw [HV.out, ← HLE.out]
                unfold OwnL
                rw [List.length_append, List.flatMap_append]
                have e : -(y) = -y := by omega
                rw [e]
                simpa using hown2
              have hb4 := (HB3.out.alloc hbz3 (.cells (c5 ⟨k, 1, 0, 0, y⟩ ++ c5 ⟨k, -1, 0, 0, -y⟩).toArray 24)).grown hgrow2 (by simp; omega) (own_ge HOL3.out)
              have H4 := hid (And.intro hol4 (And.intro hoi4 hb4))
              clear hol4 hoi4 hb4 hap3 hown2 hgrow2 hnil2
              go_roundg (N - (k + 1))
              case rel => exact ⟨k + 1, by omega, by omega, by go_num, hid ⟨H4.out.1, H4.out.2.1, H4.out.2.2, HST.out⟩⟩
              case measure => omega
          · have tx : decide (x < 1152921504606846976) = true := by simp; unfold FF at hx; omega
            have HV := hid (HMX.out.1 hx)
            clear hx
            have HV' := hid HV.out
            have hoi := HOI.out
            unfold OwnI at hoi
            rw [modelL_len] at hoi
            have hol := HOL.out
            have hap := own_apart (by decide : (24 : TypeId) ≠ 3) hol hoi
            have HAP := hid hap
            have HHOI := hid hoi
            have HHOL := hid hol
            have hbz := HB.out.size
            clear hoi hol hap
            go_upto_region 18 with fail
            go_upto_region 19 with (at_builtin; refine wpList_append_own _ rfl _ _ 46 rfl w.heap.size 3 i0 (.int .i64 0) 1 8 Try.underlying46 hi hz0 hz1 hz2 rfl (by decide) _ _ _ rfl (HHOI.out.alloc _) ⟨wc.heap.size, 0, none⟩ 1 1 [.int .i64 (-x)] rfl rfl (cell_one_new _ _ _) (by intro u hu; simp at hu; subst hu; rfl) (by unfold maxLen; omega) (by omega) (by simp; omega) ?_; intro v8 w3 hown' hgrow hnil)
            have HOI3 : Hid (OwnI w3 w.heap.size v8 (modelL l (k + 1))) := hid (by unfold OwnI; rw [modelL_len, modelL_succ, List.map_append, HV.out]; exact hown')
            have HOL3 : Hid (OwnL w3 w.heap.size (Value.slice a7 L.length c7) L) := hid (own_grown (own_below HHOL.out (bnew _ _)) hgrow HAP.out)
            have HB3 := hid ((HB.out.alloc hbz (.cells #[.int .i64 (-x)] 3)).grown hgrow (by simp; omega) (own_ge HHOI.out))
            have hbz3 := HB3.out.size
            clear hown' hgrow hnil
            go_wp2_with (at_builtin; refine wpList_append_own _ rfl _ _ 22 rfl w.heap.size 24 i4 _ 5 40 Try.underlying22 hj4 hy0 hy1 hy2 rfl (by decide) _ _ _ rfl (HOL3.out.alloc _) ⟨w3.heap.size, 0, none⟩ 2 2 (c5 ⟨k, 1, 0, 0, -x⟩ ++ c5 ⟨k, -1, 0, 0, x⟩) rfl rfl (cell_ten_new w3 ⟨k, 1, 0, 0, -x⟩ ⟨k, -1, 0, 0, x⟩ 24) (by intro u hu; simp [c5] at hu; rcases hu with rfl | rfl | rfl | rfl | rfl | rfl | rfl | rfl | rfl | rfl <;> rfl) (by unfold maxLen; omega) (by omega) (by simp; omega) ?_; intro v2 w4 hown2 hgrow2 hnil2)
            have hap3 := own_apart (by decide : (3 : TypeId) ≠ 24) HOI3.out HOL3.out
            have hoi4 : OwnI w4 w.heap.size v8 (modelL l (k + 1)) := own_grown (own_below HOI3.out (bnew _ _)) hgrow2 hap3
            have hol4 : OwnL w4 w.heap.size v2 (pinL l (k + 1)) := by
              show OwnL w4 w.heap.size v2 (pinL l k ++ [⟨k, 1, 0, 0, modelX l k⟩, ⟨k, -1, 0, 0, -(modelX l k)⟩])
              rw [HV.out, ← HLE.out]
              unfold OwnL
              rw [List.length_append, List.flatMap_append]
              have e : -(-x) = x := by omega
              rw [e]
              simpa using hown2
            have hb4 := (HB3.out.alloc hbz3 (.cells (c5 ⟨k, 1, 0, 0, -x⟩ ++ c5 ⟨k, -1, 0, 0, x⟩).toArray 24)).grown hgrow2 (by simp; omega) (own_ge HOL3.out)
            have H4 := hid (And.intro hol4 (And.intro hoi4 hb4))
            clear hol4 hoi4 hb4 hap3 hown2 hgrow2 hnil2
            go_roundg (N - (k + 1))
            case rel => exact ⟨k + 1, by omega, by omega, by go_num, hid ⟨H4.out.1, H4.out.2.1, H4.out.2.2, HST.out⟩⟩
            case measure => omega
    · have hke : k = N := by omega
      have HKE := hid hke
      clear hke
      go_wp2
      go_ret2
      obtain ⟨_, h2, h3, h4⟩ := HW.out
      rw [HKE.out] at h2 h4
      exact ⟨h3, _, rfl, h2, h4⟩
end Go.Proofs.Ytnjbahiaelehkaa
