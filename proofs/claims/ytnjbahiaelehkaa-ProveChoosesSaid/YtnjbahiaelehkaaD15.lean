/- Clone of lines, as Model and the changes use it. Model of package prove. The closures of Shifted and Turned: a line is changed in place. changed (86), with the closures of Turned (89) and Shifted (87). Turned (46) and Shifted (44). SameLines (49). alike (50): two lists of lines that answer alike. -/
import Derived.Test.YtnjbahiaelehkaaC6
import Derived.Test.YtnjbahiaelehkaaD6
import Derived.Test.YtnjbahiaelehkaaM7
import Derived.Test.YtnjbahiaelehkaaA19
import Derived.Laws.StructEq
namespace Go.Proofs.Ytnjbahiaelehkaa
open Go.RowKit



/-- What a call returns that makes lines. -/
def OwnP (l : List AM) (w : World) (e : Ending) (w' : World) : Prop := Below w.heap.size w w' ∧ ∃ v', e = .returned v' ∧ OwnL w' w.heap.size v' l
set_option maxRecDepth 100000 in
set_option maxHeartbeats 1000000 in
theorem clone_lines (l : List AM) (a : Option Addr) (cap : Nat) (w : World) (hl : Rd w a l) (hlen : l.length ≤ 1000000) :
    Calls Try.prog 82 #[.slice a l.length cap] w (OwnP l w) := by
  obtain ⟨i0, hi, hz0, hz1, hz2⟩ := info_parts info24
  cases a with
  | none =>
    have hl0 : l = [] := by
      cases l with
      | nil => rfl
      | cons x l =>
        obtain ⟨b, off, e, _⟩ := hl 0 (Nat.succ_pos _)
        cases e
    subst hl0
    refine (AnyE.slices_Clone_nil Try.lays82 0 cap w).mono ?_
    rintro e w' ⟨rfl, rfl⟩
    exact ⟨Below.refl _ _, _, rfl, rfl, .inl ⟨rfl, rfl⟩⟩
  | some ad =>
    have HL := hid hl
    clear hl
    have q22 : ∀ (w : World) (a : Option Addr) (n c n' c' : Nat), (binOp .eql 22 (.slice a n c) (.slice none n' c')).run Try.prog w = .ok (.bool a.isNone) w := fun w a n c n' c' => Lib.run_eql_slice_nil w _ _ a n c n' c' Try.underlying22
    go_enter Try.func82, Try.ntmps82
    go_wp2_with (at_builtin; (refine wpList_append_lines _ rfl _ _ rfl w.heap.size _ [] l rfl (.none (Nat.le_refl _) (heapn _ _ _ rfl)) (some ad) cap rfl (HL.out.below (bnew _ _)) (by simp; omega) (by simp) ?_); intro v' w3 hown hgr hat)
    go_ret
    exact ⟨Below.grown (bnew _ _) hgr (by simp) (by intro q hq; cases hq; exact Nat.le_refl _), _, rfl, by simpa using hown⟩


noncomputable def modelL (l : List AM) (k : Nat) : List Int := (List.range k).map (modelX l)
theorem modelL_len (l : List AM) (k : Nat) : (modelL l k).length = k := by simp [modelL]
theorem modelL_succ (l : List AM) (k : Nat) : modelL l (k + 1) = modelL l k ++ [modelX l k] := by unfold modelL; rw [List.range_succ, List.map_append]; rfl
/-- What Model returns. -/
def ModP (N : Nat) (l : List AM) (w : World) (e : Ending) (w' : World) : Prop := Below w.heap.size w w' ∧ ∃ v, e = .returned (.tuple #[v, .int .i64 0]) ∧ OwnI w' w.heap.size v (modelL l N) ∧ MdI l N N
theorem cell_ten_new (w : World) (x y : AM) (t : TypeId) : ∀ j u, (c5 x ++ c5 y)[j]? = some u → (w.alloc (.cells (c5 x ++ c5 y).toArray t)).cell? ((⟨w.heap.size, 0, none⟩ : Addr).add j) = some u := by
  intro j u hj
  have e : (⟨w.heap.size, 0, none⟩ : Addr).add j = ⟨w.heap.size, j, none⟩ := by
    unfold Addr.add
    by_cases h0 : j = 0
    · subst h0; simp
    · simp [h0]
  rw [e, celln _ _ _ _ _ rfl]
  simpa using hj

theorem own_apart {w : World} {base base' : Nat} {e e' : TypeId} {sz sz' : Nat} {v v' : Value} {n n' : Nat} {xs xs' : List Value} (he : e ≠ e') (h : w.ownsRow base e sz v n xs) (h' : w.ownsRow base' e' sz' v' n' xs') : ∀ g, v.ownBlock = some g → v'.ownBlock ≠ some g := by
  intro g hg hg'
  rcases h.2 with ⟨rfl, _⟩ | ⟨g1, cap, cur, rfl, _, hh, _⟩
  · cases hg
  rcases h'.2 with ⟨rfl, _⟩ | ⟨g2, cap', cur', rfl, _, hh', _⟩
  · cases hg'
  have e1 : g1 = g := by simpa [Value.ownBlock] using hg
  have e2 : g2 = g := by simpa [Value.ownBlock] using hg'
  subst e1
  subst e2
  rw [hh] at hh'
  cases hh'
  exact he rfl
theorem own_grown {w w' : World} {base : Nat} {e : TypeId} {sz : Nat} {v : Value} {n : Nat} {xs : List Value} {b : Option Nat} (h : w.ownsRow base e sz v n xs) (hg : w.grownBy w' b) (hne : ∀ g, v.ownBlock = some g → b ≠ some g) : w'.ownsRow base e sz v n xs := by
  refine ⟨h.1, ?_⟩
  rcases h.2 with h0 | ⟨g, cap, cur, rfl, hb, hh, h1⟩
  · exact .inl h0
  · exact .inr ⟨g, cap, cur, rfl, hb, by rw [hg.block g (lt_of_heap hh) (fun e => hne g rfl e.symm)]; exact hh, h1⟩
theorem pin_bound2 {l : List AM} {N k : Nat} (h : (pinL l k).length = l.length + 2 * k) (hl : l.length ≤ 40) (hk : k ≤ 12) (_ : N = N) : (pinL l k).length ≤ 64 := by omega
/-- What the two ends are put into. -/
def CutM (x y : Int) (px py : Option Addr) (w : World) (s12 s13 : Value) (wx : World) : Prop := ∃ b1 b2 : Nat, s12 = .pointer (some ⟨b1, 0, none⟩) ∧ s13 = .pointer (some ⟨b2, 0, none⟩) ∧
  wx.heap[b1]? = some (.cells #[.int .i64 x, .pointer px] 102 (0, 0)) ∧ wx.heap[b2]? = some (.cells #[.int .i64 y, .pointer py] 102 (0, 0)) ∧ Below w.heap.size w wx
theorem cutM1 (x y : Int) (px py : Option Addr) (w : World) : CutM x y px py w (.pointer (some ⟨w.heap.size, 0, none⟩)) (.pointer (some ⟨w.heap.size + 1, 0, none⟩)) ((w.alloc (.cells #[.int .i64 x, .pointer px] 102)).alloc (.cells #[.int .i64 y, .pointer py] 102)).drew :=
  ⟨_, _, rfl, rfl, by simp only [heap_drew, heap_alloc_if, World.size_alloc] <;> simp, by simp only [heap_drew, heap_alloc_if, World.size_alloc] <;> simp, (bmore (bnew _ _) _).drew⟩
theorem cutM2 (x y : Int) (px py : Option Addr) (w : World) : CutM x y px py w (.pointer (some ⟨w.heap.size + 1, 0, none⟩)) (.pointer (some ⟨w.heap.size, 0, none⟩)) ((w.alloc (.cells #[.int .i64 y, .pointer py] 102)).alloc (.cells #[.int .i64 x, .pointer px] 102)).drew :=
  ⟨_, _, rfl, rfl, by simp only [heap_drew, heap_alloc_if, World.size_alloc] <;> simp, by simp only [heap_drew, heap_alloc_if, World.size_alloc] <;> simp, (bmore (bnew _ _) _).drew⟩
theorem modelX_of {l : List AM} {k : Nat} {x y : Int} (r1 : (x = FF ∧ maxO (pinL l k) (lo0 k) = none) ∨ (x ≠ FF ∧ maxO (pinL l k) (lo0 k) = some x)) (r2 : (y = FF ∧ maxO (pinL l k) (hi0 k) = none) ∨ (y ≠ FF ∧ maxO (pinL l k) (hi0 k) = some y)) :
    (x ≠ FF → modelX l k = -x) ∧ (x = FF → y ≠ FF → modelX l k = y) ∧ (x = FF → y = FF → modelX l k = 0) := by
  unfold modelX pinV
  refine ⟨fun hx => ?_, fun hx hy => ?_, fun hx hy => ?_⟩
  · rcases r1 with ⟨h, _⟩ | ⟨_, h⟩
    · exact absurd h hx
    · rw [h]
  · rcases r1 with ⟨_, h⟩ | ⟨h, _⟩
    · rw [h]
      rcases r2 with ⟨h2, _⟩ | ⟨_, h2⟩
      · exact absurd h2 hy
      · rw [h2]
    · exact absurd hx h
  · rcases r1 with ⟨_, h⟩ | ⟨h, _⟩
    · rw [h]
      rcases r2 with ⟨_, h2⟩ | ⟨h2, _⟩
      · rw [h2]
      · exact absurd hy h2
    · exact absurd hx h

theorem own_base2 {w : World} {base base' : Nat} {e : TypeId} {sz : Nat} {v : Value} {n : Nat} {xs : List Value} (h : w.ownsRow base e sz v n xs) (hb : base' ≤ base) : w.ownsRow base' e sz v n xs := by
  refine ⟨h.1, ?_⟩
  rcases h.2 with h | ⟨g, cap, cur, h1, hg, h2⟩
  · exact .inl h
  · exact .inr ⟨g, cap, cur, h1, by omega, h2⟩
theorem OwnL_mono {w : World} {base base' : Nat} {v : Value} {l : List AM} (h : OwnL w base v l) (hb : base' ≤ base) : OwnL w base' v l := own_base2 h hb
set_option maxRecDepth 100000 in
set_option maxHeartbeats 8000000 in
theorem model_yes (N : Nat) (hN1 : 1 ≤ N) (hN : N ≤ 12) (l : List AM) (a : Option Addr) (cap : Nat) (w : World) (hc : checkN N l = 0) (hp : possB l = true) (hl : Rd w a l) (hlen : l.length ≤ 40) :
    Calls Try.prog 37 #[.int .i64 N, .slice a l.length cap] w (ModP N l w) := by
  have HL := hid hl; clear hl
  have HC := hid hc
  obtain ⟨_, _, hrs⟩ := checkN_in hc
  have HOK := hid (rights_ok hrs)
  have HP := hid hp
  clear hc hrs hp
  obtain ⟨i0, hi, hz0, hz1, hz2⟩ := info_parts info3
  obtain ⟨i4, hj4, hy0, hy1, hy2⟩ := info_parts info24
  go_enter Try.func37, Try.ntmps37
  go_upto_region 4 with (go_at_call 31; (with_reducible refine (check_any _ l a cap _ HL.out (by omega)).mono ?_); rw [HC.out]; rintro e w1 ⟨rfl, hb⟩; have HB := hid hb; clear hb)
  go_upto_region 6 with (go_at_call 57; (with_reducible refine (shut_any N hN _ l a cap 1000000 HOK.out hM6 hF6 (HL.out.below HB.out) (by omega)).mono ?_); rintro e w2 ⟨hb, C, M, no, tp, ty, D, T, rfl, cv, hm, hbd, hor⟩; obtain rfl := no_none HOK.out HP.out hor; have hfd := field105 C (.pointer none) cv.no; have HF := hid (hor.resolve_left (by rintro ⟨d, X, h, _⟩; cases h)); have HB := hid (HB.out.step hb); clear hb cv hm hbd hor)
  obtain ⟨hN2, hfin, htight, _⟩ := HF.out
  have H1 := hid (And.intro hfin htight)
  have HM0 := hid (MdI.start HOK.out (possB_iff.1 HP.out))
  clear HF hfin htight hfd hN2
  go_wp2_with (go_at_call 82; (with_reducible refine (clone_lines l a cap _ (HL.out.below HB.out) (by omega)).mono ?_); rintro e w3 ⟨hb, v, rfl, hown⟩; have HO := hid (OwnL_mono hown HB.out.size); have HB := hid (HB.out.step hb); clear hb hown)
  go_loopg [7, 8, 28] N (fun gh s7 s8 s28 wr => ∃ k : Nat, k ≤ N ∧ gh = N - k ∧ s28 = .int .i64 k ∧ Hid (OwnL wr w.heap.size s7 (pinL l k) ∧ OwnI wr w.heap.size s8 (modelL l k) ∧ Below w.heap.size w wr ∧ MdI l N k))
  case atStart => exact ⟨0, Nat.zero_le _, rfl, rfl, hid ⟨HO.out, OwnI.nil _ _, HB.out, HM0.out⟩⟩
  case round =>
    clear HB HO HM0
    obtain ⟨k, hk, rfl, rfl, HW⟩ := hrel
    by_cases hlt : k < N
    · have hln : (pinL l k).length ≤ 64 := by have := HW.out.2.2.2.len; omega
      obtain ⟨a7, c7, hv7, hr7⟩ := HW.out.1.rd
      have HV7 := hid hv7
      have HB := hid HW.out.2.2.1
      obtain ⟨L, hL⟩ : ∃ L, L = pinL l k := ⟨_, rfl⟩
      have HLE := hid hL
      have HOL : Hid (OwnL wr w.heap.size u7 L) := hid (by rw [hL]; exact HW.out.1)
      have HOI := hid HW.out.2.1
      have HM := hid HW.out.2.2.2
      have HRL : Hid (Rd wr a7 L) := hid (by rw [hL]; exact hr7)
      rw [← hL] at hln hv7
      have hpo : possB L = true := by rw [hL]; exact possB_iff.2 HM.out.poss
      have HPO := hid hpo
      have HOK2 : Hid (∀ a, a ∈ L → Ok N 560000000 a) := hid (by rw [hL]; exact HM.out.ok)
      clear HW hr7 hL hpo HV7
      subst hv7
      have hF5 : (100 : Int) * 560000000 < FF := by decide
      have hM5 : (0 : Int) ≤ 560000000 := by decide
      have H5 := hid (And.intro hM5 hF5)
      clear hM5 hF5
      go_upto_region 11 with fail
      go_cut [10] (fun s10 wx => ∃ c : Nat, s10 = .pointer (some ⟨c, 0, none⟩) ∧ ShutAt L N 560000000 c wx ∧ Below wr.heap.size wr wx)
      case first =>
        go_wp2_with (first | (go_at_call 57; refine (shut_any N hN _ L a7 c7 560000000 HOK2.out H5.out.1 H5.out.2 HRL.out (by omega)).mono ?_; rintro e w2 ⟨hb2, C, M, no, tp, ty, D, T, rfl, cv, hm, hbd, hor⟩; have HX := hid (And.intro hb2 (And.intro cv (And.intro hm (And.intro hbd hor)))); clear hb2 cv hm hbd hor) | (refine wpList_store_row rfl 105 (.tmp 10) (.tmp 33) rfl _ C rfl rfl 105 _ (heapn _ _ _ rfl) (by rw [HX.out.2.1.size]; exact size105) (by rw [HX.out.2.1.size]; rfl) HX.out.2.1.one ?_))
        go_meet
        obtain ⟨hb2, cv, hm, hbd, hor⟩ := HX.out
        exact ⟨_, rfl, ShutAt.new cv hm hbd hor, hb2.step newRow_below⟩
      case rest =>
        obtain ⟨c, rfl, ⟨C, M, no, tp, ty, D, T, hrow, cv, hm, hbd, hor⟩, hb3⟩ := hcut
        have hcs : CS wc c N M no tp ty := ⟨C, hrow, cv⟩
        obtain rfl := no_none HOK2.out HPO.out hor
        have hfine := hor.resolve_left (by rintro ⟨d, X, h, _⟩; cases h)
        have HOL := hid (own_below HOL.out hb3)
        have HOI := hid (own_below HOI.out hb3)
        have HB := hid (HB.out.step hb3)
        have hi1 : nd (k : Int) (-1) < 24 := nd_lt24 hN (by omega) (by omega)
        have hi2 : nd (k : Int) 1 < 24 := nd_lt24 hN (by omega) (by omega)
        have hi1' : ((nd (k : Int) (-1) : Nat) : Int) < 24 := by omega
        have hi2' : ((nd (k : Int) 1 : Nat) : Int) < 24 := by omega
        have hlc := hcs.lt
        have q1 := hcs.most hi1
        have q2 := hcs.most hi2
        have q3 := hcs.why hi1
        have q4 := hcs.why hi2
        have r1 := of_res H5.out.1 hN H5.out.2 ⟨hfine.2.1, hfine.2.2.1, hfine.2.2.2⟩ (span_ok (by omega) (by omega) (.inr rfl) : Ok N 1000000 ⟨k, -1, 0, 0, 0⟩)
        have r2 := of_res H5.out.1 hN H5.out.2 ⟨hfine.2.1, hfine.2.2.1, hfine.2.2.2⟩ (span_ok (by omega) (by omega) (.inl rfl) : Ok N 1000000 ⟨k, 1, 0, 0, 0⟩)
        simp only [ofM, if_true] at r1 r2
        obtain ⟨bx1, bx2⟩ := hbd _ hi1
        obtain ⟨by1, by2⟩ := hbd _ hi2
        have HST := hid (MdI.step HM.out hF6 hN hlt H1.out.1 H1.out.2 (F := FF) (by rw [← HLE.out]; exact hfine.2.1) hfine.2.2.1)
        generalize tp (nd (k : Int) (-1)) = x at *
        generalize tp (nd (k : Int) 1) = y at *
        generalize ty (nd (k : Int) (-1)) = px at *
        generalize ty (nd (k : Int) 1) = py at *
        rw [HLE.out] at r1 r2
        have HMX := hid (modelX_of r1 r2)
        clear r1 r2 hcs hrow cv hm hbd hor hfine hb3
        unfold FF at bx1 bx2 by1 by2
        go_upto_region 13 with fail
        go_cut [12, 13] (fun s12 s13 wx => CutM x y px py wc s12 s13 wx)
        case first =>
          go_region_held3 (fun w' => w'.cell? ⟨c, 2 + nd (k : Int) (-1) * 2, none⟩ = some (.int .i64 x) ∧ w'.cell? ⟨c, 2 + nd (k : Int) (-1) * 2 + 1, none⟩ = some (.pointer px) ∧ w'.cell? ⟨c, 2 + nd (k : Int) 1 * 2, none⟩ = some (.int .i64 y) ∧ w'.cell? ⟨c, 2 + nd (k : Int) 1 * 2 + 1, none⟩ = some (.pointer py)) (go_keep)
            ((go_at_call 63; first | ((with_reducible refine (end_any k (-1) (by omega) (by omega) _).mono ?_); rintro e w' ⟨rfl, rfl⟩) | ((with_reducible refine (end_any k 1 (by omega) (by omega) _).mono ?_); rintro e w' ⟨rfl, rfl⟩)))
          all_goals
            go_wp2_with fail
            go_meet
            first
              | exact cutM1 x y px py _
              | exact cutM2 x y px py _
        case rest =>
          obtain ⟨b1, b2, rfl, rfl, g1, g2, hb4⟩ := hcut
          obtain ⟨j0, _, _, _⟩ := box2 g1
          obtain ⟨j1, _, _, _⟩ := box2 g2
          have HOL := hid (own_below HOL.out hb4)
          have HOI := hid (own_below HOI.out hb4)
          have HB := hid (HB.out.step hb4)
          clear q1 q2 q3 q4 hlc g1 g2 hb4 hi1 hi2 hi1' hi2'
          by_cases hx : x = FF
          · have tx : decide (x < 1152921504606846976) = false := by simp; unfold FF at hx; omega
            by_cases hy : y = FF
            · have ty' : decide (y < 1152921504606846976) = false := by simp; unfold FF at hy; omega
              have HV := hid (HMX.out.2.2 hx hy)
              clear hx hy
              have HV' := hid HV.out
              have hoi := HOI.out
              unfold OwnI at hoi
              rw [modelL_len] at hoi
              have hol := HOL.out
              have hap := own_apart (by decide : (24 : TypeId) ≠ 3) hol hoi
              have HAP := hid hap
              have HHOI := hid hoi
              have HHOL := hid hol
              have hbz := HB.out.size
              clear hoi hol hap
              go_upto_region 18 with fail
              go_upto_region 19 with (at_builtin; refine wpList_append_own _ rfl _ _ 46 rfl w.heap.size 3 i0 (.int .i64 0) 1 8 Try.underlying46 hi hz0 hz1 hz2 rfl (by decide) _ _ _ rfl (HHOI.out.alloc _) ⟨wc.heap.size, 0, none⟩ 1 1 [.int .i64 (0)] rfl rfl (cell_one_new _ _ _) (by intro u hu; simp at hu; subst hu; rfl) (by unfold maxLen; omega) (by omega) (by simp; omega) ?_; intro v8 w3 hown' hgrow hnil)
              have HOI3 : Hid (OwnI w3 w.heap.size v8 (modelL l (k + 1))) := hid (by unfold OwnI; rw [modelL_len, modelL_succ, List.map_append, HV.out]; exact hown')
              have HOL3 : Hid (OwnL w3 w.heap.size (Value.slice a7 L.length c7) L) := hid (own_grown (own_below HHOL.out (bnew _ _)) hgrow HAP.out)
              have HB3 := hid ((HB.out.alloc hbz (.cells #[.int .i64 (0)] 3)).grown hgrow (by simp; omega) (own_ge HHOI.out))
              have hbz3 := HB3.out.size
              clear hown' hgrow hnil
              go_wp2_with (at_builtin; refine wpList_append_own _ rfl _ _ 22 rfl w.heap.size 24 i4 _ 5 40 Try.underlying22 hj4 hy0 hy1 hy2 rfl (by decide) _ _ _ rfl (HOL3.out.alloc _) ⟨w3.heap.size, 0, none⟩ 2 2 (c5 ⟨k, 1, 0, 0, 0⟩ ++ c5 ⟨k, -1, 0, 0, 0⟩) rfl rfl (cell_ten_new w3 ⟨k, 1, 0, 0, 0⟩ ⟨k, -1, 0, 0, 0⟩ 24) (by intro u hu; simp [c5] at hu; rcases hu with rfl | rfl | rfl | rfl | rfl | rfl | rfl | rfl | rfl | rfl <;> rfl) (by unfold maxLen; omega) (by omega) (by simp; omega) ?_; intro v2 w4 hown2 hgrow2 hnil2)
              have hap3 := own_apart (by decide : (3 : TypeId) ≠ 24) HOI3.out HOL3.out
              have hoi4 : OwnI w4 w.heap.size v8 (modelL l (k + 1)) := own_grown (own_below HOI3.out (bnew _ _)) hgrow2 hap3
              have hol4 : OwnL w4 w.heap.size v2 (pinL l (k + 1)) := by
                show OwnL w4 w.heap.size v2 (pinL l k ++ [⟨k, 1, 0, 0, modelX l k⟩, ⟨k, -1, 0, 0, -(modelX l k)⟩])
                rw [HV.out, ← HLE.out]
                unfold OwnL
                rw [List.length_append, List.flatMap_append]
                have e : -(0) = 0 := by omega
                rw [e]
                simpa using hown2
              have hb4 := (HB3.out.alloc hbz3 (.cells (c5 ⟨k, 1, 0, 0, 0⟩ ++ c5 ⟨k, -1, 0, 0, 0⟩).toArray 24)).grown hgrow2 (by simp; omega) (own_ge HOL3.out)
              have H4 := hid (And.intro hol4 (And.intro hoi4 hb4))
              clear hol4 hoi4 hb4 hap3 hown2 hgrow2 hnil2
              go_roundg (N - (k + 1))
              case rel => exact ⟨k + 1, by omega, by omega, by go_num, hid ⟨H4.out.1, H4.out.2.1, H4.out.2.2, HST.out⟩⟩
              case measure => omega
            · have ty' : decide (y < 1152921504606846976) = true := by simp; unfold FF at hy; omega
              have HV := hid (HMX.out.2.1 hx hy)
              clear hx hy
              have HV' := hid HV.out
              have hoi := HOI.out
              unfold OwnI at hoi
              rw [modelL_len] at hoi
              have hol := HOL.out
              have hap := own_apart (by decide : (24 : TypeId) ≠ 3) hol hoi
              have HAP := hid hap
              have HHOI := hid hoi
              have HHOL := hid hol
              have hbz := HB.out.size
              clear hoi hol hap
              go_upto_region 18 with fail
              go_upto_region 19 with (at_builtin; refine wpList_append_own _ rfl _ _ 46 rfl w.heap.size 3 i0 (.int .i64 0) 1 8 Try.underlying46 hi hz0 hz1 hz2 rfl (by decide) _ _ _ rfl (HHOI.out.alloc _) ⟨wc.heap.size, 0, none⟩ 1 1 [.int .i64 (y)] rfl rfl (cell_one_new _ _ _) (by intro u hu; simp at hu; subst hu; rfl) (by unfold maxLen; omega) (by omega) (by simp; omega) ?_; intro v8 w3 hown' hgrow hnil)
              have HOI3 : Hid (OwnI w3 w.heap.size v8 (modelL l (k + 1))) := hid (by unfold OwnI; rw [modelL_len, modelL_succ, List.map_append, HV.out]; exact hown')
              have HOL3 : Hid (OwnL w3 w.heap.size (Value.slice a7 L.length c7) L) := hid (own_grown (own_below HHOL.out (bnew _ _)) hgrow HAP.out)
              have HB3 := hid ((HB.out.alloc hbz (.cells #[.int .i64 (y)] 3)).grown hgrow (by simp; omega) (own_ge HHOI.out))
              have hbz3 := HB3.out.size
              clear hown' hgrow hnil
              go_wp2_with (at_builtin; refine wpList_append_own _ rfl _ _ 22 rfl w.heap.size 24 i4 _ 5 40 Try.underlying22 hj4 hy0 hy1 hy2 rfl (by decide) _ _ _ rfl (HOL3.out.alloc _) ⟨w3.heap.size, 0, none⟩ 2 2 (c5 ⟨k, 1, 0, 0, y⟩ ++ c5 ⟨k, -1, 0, 0, -y⟩) rfl rfl (cell_ten_new w3 ⟨k, 1, 0, 0, y⟩ ⟨k, -1, 0, 0, -y⟩ 24) (by intro u hu; simp [c5] at hu; rcases hu with rfl | rfl | rfl | rfl | rfl | rfl | rfl | rfl | rfl | rfl <;> rfl) (by unfold maxLen; omega) (by omega) (by simp; omega) ?_; intro v2 w4 hown2 hgrow2 hnil2)
              have hap3 := own_apart (by decide : (3 : TypeId) ≠ 24) HOI3.out HOL3.out
              have hoi4 : OwnI w4 w.heap.size v8 (modelL l (k + 1)) := own_grown (own_below HOI3.out (bnew _ _)) hgrow2 hap3
              have hol4 : OwnL w4 w.heap.size v2 (pinL l (k + 1)) := by
                show OwnL w4 w.heap.size v2 (pinL l k ++ [⟨k, 1, 0, 0, modelX l k⟩, ⟨k, -1, 0, 0, -(modelX l k)⟩])
                rw [HV.out, ← HLE.out]
                unfold OwnL
                rw [List.length_append, List.flatMap_append]
                have e : -(y) = -y := by omega
                rw [e]
                simpa using hown2
              have hb4 := (HB3.out.alloc hbz3 (.cells (c5 ⟨k, 1, 0, 0, y⟩ ++ c5 ⟨k, -1, 0, 0, -y⟩).toArray 24)).grown hgrow2 (by simp; omega) (own_ge HOL3.out)
              have H4 := hid (And.intro hol4 (And.intro hoi4 hb4))
              clear hol4 hoi4 hb4 hap3 hown2 hgrow2 hnil2
              go_roundg (N - (k + 1))
              case rel => exact ⟨k + 1, by omega, by omega, by go_num, hid ⟨H4.out.1, H4.out.2.1, H4.out.2.2, HST.out⟩⟩
              case measure => omega
          · have tx : decide (x < 1152921504606846976) = true := by simp; unfold FF at hx; omega
            have HV := hid (HMX.out.1 hx)
            clear hx
            have HV' := hid HV.out
            have hoi := HOI.out
            unfold OwnI at hoi
            rw [modelL_len] at hoi
            have hol := HOL.out
            have hap := own_apart (by decide : (24 : TypeId) ≠ 3) hol hoi
            have HAP := hid hap
            have HHOI := hid hoi
            have HHOL := hid hol
            have hbz := HB.out.size
            clear hoi hol hap
            go_upto_region 18 with fail
            go_upto_region 19 with (at_builtin; refine wpList_append_own _ rfl _ _ 46 rfl w.heap.size 3 i0 (.int .i64 0) 1 8 Try.underlying46 hi hz0 hz1 hz2 rfl (by decide) _ _ _ rfl (HHOI.out.alloc _) ⟨wc.heap.size, 0, none⟩ 1 1 [.int .i64 (-x)] rfl rfl (cell_one_new _ _ _) (by intro u hu; simp at hu; subst hu; rfl) (by unfold maxLen; omega) (by omega) (by simp; omega) ?_; intro v8 w3 hown' hgrow hnil)
            have HOI3 : Hid (OwnI w3 w.heap.size v8 (modelL l (k + 1))) := hid (by unfold OwnI; rw [modelL_len, modelL_succ, List.map_append, HV.out]; exact hown')
            have HOL3 : Hid (OwnL w3 w.heap.size (Value.slice a7 L.length c7) L) := hid (own_grown (own_below HHOL.out (bnew _ _)) hgrow HAP.out)
            have HB3 := hid ((HB.out.alloc hbz (.cells #[.int .i64 (-x)] 3)).grown hgrow (by simp; omega) (own_ge HHOI.out))
            have hbz3 := HB3.out.size
            clear hown' hgrow hnil
            go_wp2_with (at_builtin; refine wpList_append_own _ rfl _ _ 22 rfl w.heap.size 24 i4 _ 5 40 Try.underlying22 hj4 hy0 hy1 hy2 rfl (by decide) _ _ _ rfl (HOL3.out.alloc _) ⟨w3.heap.size, 0, none⟩ 2 2 (c5 ⟨k, 1, 0, 0, -x⟩ ++ c5 ⟨k, -1, 0, 0, x⟩) rfl rfl (cell_ten_new w3 ⟨k, 1, 0, 0, -x⟩ ⟨k, -1, 0, 0, x⟩ 24) (by intro u hu; simp [c5] at hu; rcases hu with rfl | rfl | rfl | rfl | rfl | rfl | rfl | rfl | rfl | rfl <;> rfl) (by unfold maxLen; omega) (by omega) (by simp; omega) ?_; intro v2 w4 hown2 hgrow2 hnil2)
            have hap3 := own_apart (by decide : (3 : TypeId) ≠ 24) HOI3.out HOL3.out
            have hoi4 : OwnI w4 w.heap.size v8 (modelL l (k + 1)) := own_grown (own_below HOI3.out (bnew _ _)) hgrow2 hap3
            have hol4 : OwnL w4 w.heap.size v2 (pinL l (k + 1)) := by
              show OwnL w4 w.heap.size v2 (pinL l k ++ [⟨k, 1, 0, 0, modelX l k⟩, ⟨k, -1, 0, 0, -(modelX l k)⟩])
              rw [HV.out, ← HLE.out]
              unfold OwnL
              rw [List.length_append, List.flatMap_append]
              have e : -(-x) = x := by omega
              rw [e]
              simpa using hown2
            have hb4 := (HB3.out.alloc hbz3 (.cells (c5 ⟨k, 1, 0, 0, -x⟩ ++ c5 ⟨k, -1, 0, 0, x⟩).toArray 24)).grown hgrow2 (by simp; omega) (own_ge HOL3.out)
            have H4 := hid (And.intro hol4 (And.intro hoi4 hb4))
            clear hol4 hoi4 hb4 hap3 hown2 hgrow2 hnil2
            go_roundg (N - (k + 1))
            case rel => exact ⟨k + 1, by omega, by omega, by go_num, hid ⟨H4.out.1, H4.out.2.1, H4.out.2.2, HST.out⟩⟩
            case measure => omega
    · have hke : k = N := by omega
      have HKE := hid hke
      clear hke
      go_wp2
      go_ret2
      obtain ⟨_, h2, h3, h4⟩ := HW.out
      rw [HKE.out] at h2 h4
      exact ⟨h3, _, rfl, h2, h4⟩



/-- One cell of a line is written. -/
theorem BL.put {w : World} {g : Nat} {L : List AM} (h : BL w g L) {i : Nat} (hi : i < L.length) {j : Nat} (hj : j < 5) (v : Value) (x : AM) (hx : ∀ t, t < 5 → (c5 x)[t]? = if t = j then some v else (c5 L[i])[t]?) : BL (w.setCell ⟨g, i * 5 + j, none⟩ v) g (L.set i x) := by
  obtain ⟨cur, hh, hc⟩ := h
  have hsz : i * 5 + j < cur.size := by
    have := hc i hi j hj
    have h5 : (c5 L[i])[j]? ≠ none := by
      have : j < (c5 L[i]).length := hj
      rw [List.getElem?_eq_getElem this]
      simp
    rw [← this] at h5
    exact (Array.getElem?_eq_some_iff.1 (Option.ne_none_iff_exists'.1 h5).choose_spec).1
  refine ⟨_, heap_setCell_same w g (i * 5 + j) cur 24 v hh, fun i' hi' t ht => ?_⟩
  have hi'' : i' < L.length := by simpa using hi'
  rw [Array.getElem?_setIfInBounds]
  by_cases e : i' = i
  · subst e
    rw [List.getElem_set_self, hx t ht]
    by_cases e2 : t = j
    · subst e2
      rw [if_pos rfl, if_pos hsz, if_pos rfl]
    · rw [if_neg (by omega), if_neg e2]
      exact hc i' hi'' t ht
  · rw [List.getElem_set_ne (Ne.symm e), if_neg (by omega)]
    exact hc i' hi'' t ht

def turnA (k : Int) (x : AM) : AM := ⟨x.A, if x.A = k then -x.P else x.P, x.B, if x.B = k then -x.Q else x.Q, x.M⟩
/-- A line of block g has been changed. -/
def ChP (g : Nat) (L : List AM) (w : World) (e : Ending) (w' : World) : Prop := e = .returned (.tuple #[]) ∧ BL w' g L ∧ But g w w'

set_option maxRecDepth 100000 in
set_option maxHeartbeats 4000000 in
theorem turn89 (L : List AM) (i : Nat) (hi : i < L.length) (k : Int) (g b : Nat) (w : World) (h : BL w g L) (hb : w.cell? ⟨b, 0, none⟩ = some (.int .i64 k)) (hbl : b < w.heap.size) (hne : b ≠ g) (hp : -1 ≤ L[i].P ∧ L[i].P ≤ 1) (hq : -1 ≤ L[i].Q ∧ L[i].Q ≤ 1) :
    Calls Try.prog 89 #[.pointer (some ⟨g, i * 5, none⟩), .pointer (some ⟨b, 0, none⟩)] w (ChP g (L.set i (turnA k L[i])) w) := by
  obtain ⟨p0, p1, p2, p3, p4⟩ := h.at hi
  have f1 := h.frozen (i * 5 + 1)
  have f3 := h.frozen (i * 5 + 3)
  have HH := hid h
  obtain ⟨x, hx⟩ : ∃ x, x = L[i] := ⟨_, rfl⟩
  rw [← hx] at p0 p1 p2 p3 p4 hp hq ⊢
  obtain ⟨hp1, hp2⟩ := hp
  obtain ⟨hq1, hq2⟩ := hq
  have HX := hid hx
  obtain ⟨A, P, B, Q, M⟩ := x
  clear h hx
  simp only at p0 p1 p2 p3 p4 hp1 hp2 hq1 hq2
  obtain ⟨P1, hP1⟩ : ∃ P1, P1 = if A = k then -P else P := ⟨_, rfl⟩
  obtain ⟨Q1, hQ1⟩ : ∃ Q1, Q1 = if B = k then -Q else Q := ⟨_, rfl⟩
  have hres : turnA k ⟨A, P, B, Q, M⟩ = ⟨A, P1, B, Q1, M⟩ := by rw [hP1, hQ1]; rfl
  rw [hres]
  clear hres
  by_cases hA : A = k
  case' pos =>
    have dA : (A == k) = true := by simpa using hA
    have hP : P1 = -P := by rw [hP1, if_pos hA]
    clear hA hP1
    subst hP
    go_enter Try.func89, Try.ntmps89
    go_upto_region 0 with fail
    refine wp_region_still_tail 5 (by kernel_rfl) (by kernel_rfl) ?_
    simp only [List.take_succ_cons, List.take_zero, List.drop_succ_cons, List.drop_zero]
    repeat still_step
    refine wpStill_nil ?_
    change wpList _ _ _ _ _ w.drew
    go_upto_region 2 with fail
    have HW : Hid (BL (w.setCell ⟨g, i * 5 + 1, none⟩ (.int .i64 (-P))).drew g (L.set i ⟨A, -P, B, Q, M⟩) ∧ But g w (w.setCell ⟨g, i * 5 + 1, none⟩ (.int .i64 (-P))).drew) := hid ⟨(HH.out.put hi (by decide) _ _ (fun s hs => by rw [← HX.out]; match s, hs with | 0, _ => rfl | 1, _ => rfl | 2, _ => rfl | 3, _ => rfl | 4, _ => rfl)).below (bdrew _), ((But.refl _ _).set _ _).drew⟩
    have hb1 := but_cell HW.out.2 hb hbl hne
    generalize (w.setCell ⟨g, i * 5 + 1, none⟩ (.int .i64 (-P))).drew = W1 at *
  case' neg =>
    have dA : (A == k) = false := by simpa using hA
    have hP : P1 = P := by rw [hP1, if_neg hA]
    clear hA hP1
    subst hP
    go_enter Try.func89, Try.ntmps89
    go_upto_region 0 with fail
    refine wp_region_still_tail 5 (by kernel_rfl) (by kernel_rfl) ?_
    simp only [List.take_succ_cons, List.take_zero, List.drop_succ_cons, List.drop_zero]
    repeat still_step
    refine wpStill_nil ?_
    change wpList _ _ _ _ _ w.drew
    go_upto_region 2 with fail
    have HW : Hid (BL w.drew g (L.set i ⟨A, P1, B, Q, M⟩) ∧ But g w w.drew) := hid ⟨by
      have e : L.set i ⟨A, P1, B, Q, M⟩ = L := by rw [HX.out]; exact List.set_getElem_self hi
      rw [e]
      exact HH.out.below (bdrew _), (But.refl _ _).drew⟩
    have hb1 := but_cell HW.out.2 hb hbl hne
    generalize w.drew = W1 at *
  all_goals
    have hbw := HW.out.2.size
    obtain ⟨_, _, p2, p3, _⟩ := HW.out.1.at (by simpa using hi : i < (L.set i _).length)
    have f3 := HW.out.1.frozen (i * 5 + 3)
    rw [List.getElem_set_self] at p2 p3
    simp only at p2 p3
    by_cases hB : B = k
    · have dB : (B == k) = true := by simpa using hB
      have hQ : Q1 = -Q := by rw [hQ1, if_pos hB]
      clear hB hQ1
      subst hQ
      refine wp_region_still_tail 5 (by kernel_rfl) (by kernel_rfl) ?_
      simp only [List.take_succ_cons, List.take_zero, List.drop_succ_cons, List.drop_zero]
      repeat still_step
      refine wpStill_nil ?_
      change wpList _ _ _ _ _ W1.drew
      go_wp2
      go_end0
      refine ⟨rfl, ?_, HW.out.2.trans ((But.refl _ _).drew.set _ _)⟩
      have := (HW.out.1.below (bdrew _)).put (i := i) (by simpa using hi) (j := 3) (by decide) (.int .i64 (-Q)) ⟨A, _, B, -Q, M⟩ (fun s hs => by rw [List.getElem_set_self]; match s, hs with | 0, _ => rfl | 1, _ => rfl | 2, _ => rfl | 3, _ => rfl | 4, _ => rfl)
      rw [List.set_set] at this
      exact this
    · have dB : (B == k) = false := by simpa using hB
      have hQ : Q1 = Q := by rw [hQ1, if_neg hB]
      clear hB hQ1
      subst hQ
      refine wp_region_still_tail 5 (by kernel_rfl) (by kernel_rfl) ?_
      simp only [List.take_succ_cons, List.take_zero, List.drop_succ_cons, List.drop_zero]
      repeat still_step
      refine wpStill_nil ?_
      change wpList _ _ _ _ _ W1.drew
      go_wp2
      go_end0
      exact ⟨rfl, HW.out.1.below (bdrew _), HW.out.2.drew⟩

def shiftA (k by_ : Int) (x : AM) : AM := ⟨x.A, x.P, x.B, x.Q, x.M + (if x.A = k then x.P * by_ else 0) + (if x.B = k then x.Q * by_ else 0)⟩
theorem small_mul {p y : Int} (hp : -1 ≤ p ∧ p ≤ 1) (hy : -1000000 ≤ y ∧ y ≤ 1000000) : -1000000 ≤ p * y ∧ p * y ≤ 1000000 := by
  have : p = -1 ∨ p = 0 ∨ p = 1 := by omega
  rcases this with h | h | h <;> rw [h] <;> omega
set_option maxRecDepth 100000 in
set_option maxHeartbeats 4000000 in
theorem shift87 (L : List AM) (i : Nat) (hi : i < L.length) (k y : Int) (g b b2 : Nat) (w : World) (h : BL w g L) (hb : w.cell? ⟨b, 0, none⟩ = some (.int .i64 k)) (hbl : b < w.heap.size) (hne : b ≠ g) (hb2 : w.cell? ⟨b2, 0, none⟩ = some (.int .i64 y)) (hbl2 : b2 < w.heap.size) (hne2 : b2 ≠ g)
    (hp : -1 ≤ L[i].P ∧ L[i].P ≤ 1) (hq : -1 ≤ L[i].Q ∧ L[i].Q ≤ 1) (hm : -1000000 ≤ L[i].M ∧ L[i].M ≤ 1000000) (hy : -1000000 ≤ y ∧ y ≤ 1000000) :
    Calls Try.prog 87 #[.pointer (some ⟨g, i * 5, none⟩), .pointer (some ⟨b, 0, none⟩), .pointer (some ⟨b2, 0, none⟩)] w (ChP g (L.set i (shiftA k y L[i])) w) := by
  obtain ⟨p0, p1, p2, p3, p4⟩ := h.at hi
  have f4 := h.frozen (i * 5 + 4)
  have HH := hid h
  obtain ⟨x, hx⟩ : ∃ x, x = L[i] := ⟨_, rfl⟩
  rw [← hx] at p0 p1 p2 p3 p4 hp hq hm ⊢
  have HX := hid hx
  obtain ⟨A, P, B, Q, M⟩ := x
  clear h hx
  simp only at p0 p1 p2 p3 p4 hp hq hm
  obtain ⟨s1, hs1⟩ : ∃ s, s = P * y := ⟨_, rfl⟩
  obtain ⟨s2, hs2⟩ : ∃ s, s = Q * y := ⟨_, rfl⟩
  have hb1' := small_mul hp hy
  have hb2' := small_mul hq hy
  rw [← hs1] at hb1'
  rw [← hs2] at hb2'
  obtain ⟨u1, u2⟩ := hb1'
  obtain ⟨v1, v2⟩ := hb2'
  obtain ⟨m1, m2⟩ := hm
  have W1 : Hid (IntKind.i64.wrap (P * y) = s1) := hid (by rw [← hs1]; exact IntWalk.i64_in _ (by omega))
  have W2 : Hid (IntKind.i64.wrap (Q * y) = s2) := hid (by rw [← hs2]; exact IntWalk.i64_in _ (by omega))
  obtain ⟨M1, hM1⟩ : ∃ M1, M1 = if A = k then M + s1 else M := ⟨_, rfl⟩
  obtain ⟨M2, hM2⟩ : ∃ M2, M2 = if B = k then M1 + s2 else M1 := ⟨_, rfl⟩
  have hres : shiftA k y ⟨A, P, B, Q, M⟩ = ⟨A, P, B, Q, M2⟩ := by
    unfold shiftA
    rw [hM2, hM1, hs1, hs2]
    simp only
    congr 1
    repeat' split
    all_goals omega
  rw [hres]
  have z1 : -2000000 ≤ M1 := by rw [hM1]; split <;> omega
  have z2 : M1 ≤ 2000000 := by rw [hM1]; split <;> omega
  clear hres hs1 hs2 hp hq hy
  by_cases hA : A = k
  case' pos =>
    have dA : (A == k) = true := by simpa using hA
    have hP : M1 = M + s1 := by rw [hM1, if_pos hA]
    clear hA hM1
    subst hP
    go_enter Try.func87, Try.ntmps87
    go_upto_region 0 with fail
    refine wp_region_still_tail 5 (by kernel_rfl) (by kernel_rfl) ?_
    simp only [List.take_succ_cons, List.take_zero, List.drop_succ_cons, List.drop_zero]
    repeat still_step
    refine wpStill_nil ?_
    change wpList _ _ _ _ _ w.drew
    go_upto_region 1 with fail
    replace p0 : w.drew.cell? ⟨g, i * 5, none⟩ = some (.int .i64 A) := p0
    replace p1 : w.drew.cell? ⟨g, i * 5 + 1, none⟩ = some (.int .i64 P) := p1
    replace p2 : w.drew.cell? ⟨g, i * 5 + 2, none⟩ = some (.int .i64 B) := p2
    replace p3 : w.drew.cell? ⟨g, i * 5 + 3, none⟩ = some (.int .i64 Q) := p3
    replace p4 : w.drew.cell? ⟨g, i * 5 + 4, none⟩ = some (.int .i64 M) := p4
    replace hb : w.drew.cell? ⟨b, 0, none⟩ = some (.int .i64 k) := hb
    replace hb2 : w.drew.cell? ⟨b2, 0, none⟩ = some (.int .i64 y) := hb2
    replace f4 : w.drew.frozen? ⟨g, i * 5 + 4, none⟩ = false := f4
    have HD : Hid (BL w.drew g L ∧ But g w w.drew) := hid ⟨HH.out.below (bdrew _), (But.refl _ _).drew⟩
    have hds : w.heap.size ≤ w.drew.heap.size := Nat.le_refl _
    generalize w.drew = W0 at *
    have w1 := W1.out
    have w3 : IntKind.i64.wrap (M + s1) = M + s1 := IntWalk.i64_in _ (by omega)
    refine wp_region_still_tail 13 (by kernel_rfl) (by kernel_rfl) ?_
    simp only [List.take_succ_cons, List.take_zero, List.drop_succ_cons, List.drop_zero]
    repeat still_step
    refine wpStill_nil ?_
    change wpList _ _ _ _ _ W0.drew
    clear w1 w3
    have p4d : W0.drew.cell? ⟨g, i * 5 + 4, none⟩ = some (.int .i64 M) := p4
    have f4d : W0.drew.frozen? ⟨g, i * 5 + 4, none⟩ = false := f4
    go_upto_region 2 with fail
    have HW : Hid (BL (W0.setCell ⟨g, i * 5 + 4, none⟩ (.int .i64 (M + s1))).drew g (L.set i ⟨A, P, B, Q, M + s1⟩) ∧ But g w (W0.setCell ⟨g, i * 5 + 4, none⟩ (.int .i64 (M + s1))).drew) := hid ⟨(HD.out.1.put hi (by decide) _ _ (fun s hs => by rw [← HX.out]; match s, hs with | 0, _ => rfl | 1, _ => rfl | 2, _ => rfl | 3, _ => rfl | 4, _ => rfl)).below (bdrew _), (HD.out.2.set _ _).drew⟩
    have hk1 := but_cell (((But.refl g W0).set (i * 5 + 4) (.int .i64 (M + s1))).drew) hb (by omega) hne
    have hk2 := but_cell (((But.refl g W0).set (i * 5 + 4) (.int .i64 (M + s1))).drew) hb2 (by omega) hne2
    clear p0 p1 p2 p3 p4 hb hb2 f4 p4d f4d
    generalize (W0.setCell ⟨g, i * 5 + 4, none⟩ (.int .i64 (M + s1))).drew = V1 at *
    obtain ⟨N1, hN1⟩ : ∃ N1, N1 = M + s1 := ⟨_, rfl⟩
    rw [← hN1] at HW z1 z2 hM2
  case' neg =>
    have dA : (A == k) = false := by simpa using hA
    have hP : M1 = M := by rw [hM1, if_neg hA]
    clear hA hM1
    subst hP
    go_enter Try.func87, Try.ntmps87
    go_upto_region 0 with fail
    refine wp_region_still_tail 5 (by kernel_rfl) (by kernel_rfl) ?_
    simp only [List.take_succ_cons, List.take_zero, List.drop_succ_cons, List.drop_zero]
    repeat still_step
    refine wpStill_nil ?_
    change wpList _ _ _ _ _ w.drew
    go_upto_region 2 with fail
    have HW : Hid (BL w.drew g (L.set i ⟨A, P, B, Q, M1⟩) ∧ But g w w.drew) := hid ⟨by
      have e : L.set i ⟨A, P, B, Q, M1⟩ = L := by rw [HX.out]; exact List.set_getElem_self hi
      rw [e]
      exact HH.out.below (bdrew _), (But.refl _ _).drew⟩
    have hk1 : w.drew.cell? ⟨b, 0, none⟩ = some (.int .i64 k) := hb
    have hk2 : w.drew.cell? ⟨b2, 0, none⟩ = some (.int .i64 y) := hb2
    clear p0 p1 p2 p3 p4 hb hb2 f4
    generalize w.drew = V1 at *
    obtain ⟨N1, hN1⟩ : ∃ N1, N1 = M1 := ⟨_, rfl⟩
    rw [← hN1] at HW z1 z2 hM2
  all_goals
    obtain ⟨_, _, p2, p3, p4⟩ := HW.out.1.at (by simpa using hi : i < (L.set i _).length)
    have f4 := HW.out.1.frozen (i * 5 + 4)
    rw [List.getElem_set_self] at p2 p3 p4
    simp only at p2 p3 p4
    clear hN1
    by_cases hB : B = k
    · have dB : (B == k) = true := by simpa using hB
      have hQ : M2 = N1 + s2 := by rw [hM2, if_pos hB]
      clear hB hM2
      subst hQ
      refine wp_region_still_tail 5 (by kernel_rfl) (by kernel_rfl) ?_
      simp only [List.take_succ_cons, List.take_zero, List.drop_succ_cons, List.drop_zero]
      repeat still_step
      refine wpStill_nil ?_
      change wpList _ _ _ _ _ V1.drew
      go_upto_region 3 with fail
      replace p3 : V1.drew.cell? ⟨g, i * 5 + 3, none⟩ = some (.int .i64 Q) := p3
      replace p4 : V1.drew.cell? ⟨g, i * 5 + 4, none⟩ = some (.int .i64 N1) := p4
      replace hk2 : V1.drew.cell? ⟨b2, 0, none⟩ = some (.int .i64 y) := hk2
      replace f4 : V1.drew.frozen? ⟨g, i * 5 + 4, none⟩ = false := f4
      have HD : Hid (BL V1.drew g (L.set i ⟨A, P, B, Q, N1⟩) ∧ But g w V1.drew) := hid ⟨HW.out.1.below (bdrew _), HW.out.2.drew⟩
      clear HW hk1 p2
      generalize V1.drew = V2 at *
      have w2 := W2.out
      have w3 : IntKind.i64.wrap (N1 + s2) = N1 + s2 := IntWalk.i64_in _ (by omega)
      refine wp_region_still_tail 13 (by kernel_rfl) (by kernel_rfl) ?_
      simp only [List.take_succ_cons, List.take_zero, List.drop_succ_cons, List.drop_zero]
      repeat still_step
      refine wpStill_nil ?_
      change wpList _ _ _ _ _ V2.drew
      clear w2 w3
      have p4d : V2.drew.cell? ⟨g, i * 5 + 4, none⟩ = some (.int .i64 N1) := p4
      have f4d : V2.drew.frozen? ⟨g, i * 5 + 4, none⟩ = false := f4
      go_wp2
      go_end0
      refine ⟨rfl, ?_, HD.out.2.trans ((But.refl _ _).drew.set _ _)⟩
      have := (HD.out.1.below (bdrew _)).put (i := i) (by simpa using hi) (j := 4) (by decide) (.int .i64 (N1 + s2)) ⟨A, P, B, Q, N1 + s2⟩ (fun s hs => by rw [List.getElem_set_self]; match s, hs with | 0, _ => rfl | 1, _ => rfl | 2, _ => rfl | 3, _ => rfl | 4, _ => rfl)
      rw [List.set_set] at this
      exact this
    · have dB : (B == k) = false := by simpa using hB
      have hQ : M2 = N1 := by rw [hM2, if_neg hB]
      clear hB hM2
      subst hQ
      refine wp_region_still_tail 5 (by kernel_rfl) (by kernel_rfl) ?_
      simp only [List.take_succ_cons, List.take_zero, List.drop_succ_cons, List.drop_zero]
      repeat still_step
      refine wpStill_nil ?_
      change wpList _ _ _ _ _ V1.drew
      go_wp2
      go_end0
      exact ⟨rfl, HW.out.1.below (bdrew _), HW.out.2.drew⟩


/-- The first k lines are changed. -/
def chgd (f : AM → AM) (l : List AM) (k : Nat) : List AM := (l.take k).map f ++ l.drop k
theorem chgd_len (f : AM → AM) (l : List AM) (k : Nat) : (chgd f l k).length = l.length := by simp [chgd]; omega
theorem chgd_zero (f : AM → AM) (l : List AM) : chgd f l 0 = l := by simp [chgd]
theorem chgd_all (f : AM → AM) (l : List AM) : chgd f l l.length = l.map f := by simp [chgd]
theorem chgd_at (f : AM → AM) (l : List AM) (k : Nat) (h : k < l.length) : (chgd f l k)[k]'(by rw [chgd_len]; exact h) = l[k] := by
  unfold chgd
  rw [List.getElem_append_right (by simp [Nat.min_eq_left (Nat.le_of_lt h)])]
  simp [Nat.min_eq_left (Nat.le_of_lt h)]
theorem chgd_set (f : AM → AM) (l : List AM) (k : Nat) (h : k < l.length) : (chgd f l k).set k (f l[k]) = chgd f l (k + 1) := by
  unfold chgd
  rw [List.set_append_right _ _ (by simp [Nat.min_eq_left (Nat.le_of_lt h)])]
  simp only [List.length_map, List.length_take, Nat.min_eq_left (Nat.le_of_lt h), Nat.sub_self]
  rw [List.drop_eq_getElem_cons h, List.set_cons_zero, List.take_succ_eq_append_getElem h, List.map_append, List.append_assoc]
  rfl
/-- What changed returns: the changed lines, or the fault. -/
def ChgP (n : Int) (r : List AM) (w : World) (e : Ending) (w' : World) : Prop := Below w.heap.size w w' ∧
  ((rightsB n r = true ∧ ∃ a cap, e = .returned (.tuple #[.slice a r.length cap, .int .i64 0]) ∧ Rd w' a r) ∨ (rightsB n r = false ∧ e = .returned (.tuple #[.slice none 0 0, .int .i64 1])))
theorem right_parts {n : Int} {x : AM} (h : rightB n x = true) : (-1 ≤ x.P ∧ x.P ≤ 1) ∧ (-1 ≤ x.Q ∧ x.Q ≤ 1) ∧ (-1000000 ≤ x.M ∧ x.M ≤ 1000000) := by
  simp only [rightB, decide_eq_true_eq] at h
  exact ⟨by omega, by omega, by omega⟩
theorem chgd_bad {n : Int} {f : AM → AM} {l : List AM} {k : Nat} (h : k < l.length) (hb : rightB n (f l[k]) = false) : rightsB n (l.map f) = false := by
  rw [← rightsB_iff]
  exact ⟨_, List.mem_map_of_mem (List.getElem_mem h), hb⟩

set_option maxRecDepth 100000 in
set_option maxHeartbeats 4000000 in
theorem changed89 (n : Int) (hn : 1 ≤ n) (hn' : n ≤ 12) (k : Int) (l : List AM) (a : Option Addr) (cap : Nat) (b1 : Nat) (w : World) (hl : Rd w a l) (hlen : l.length ≤ 64) (hr : rightsB n l = true)
    (hb1 : w.cell? ⟨b1, 0, none⟩ = some (.int .i64 k)) (hbl1 : b1 < w.heap.size) :
    Calls Try.prog 86 #[.int .i64 n, .slice a l.length cap, .func (.func 89) #[] #[.pointer (some ⟨b1, 0, none⟩)]] w (ChgP n (l.map (turnA k)) w) := by
  obtain ⟨f, hf⟩ : ∃ f, f = turnA k := ⟨_, rfl⟩
  rw [← hf]
  have HF := hid hf
  have HL := hid hl
  have HR := hid (fun i (h : i < l.length) => right_parts (List.all_eq_true.1 hr _ (List.getElem_mem h)))
  have HC1 := hid (And.intro hb1 hbl1)
  clear hl hf hr hb1 hbl1
  go_enter Try.func86, Try.ntmps86
  go_upto_region 2 with (go_at_call 82; (with_reducible refine (clone_lines l a cap _ HL.out (by omega)).mono ?_); rintro e w3 ⟨hb, v, rfl, hown⟩; have HB := hid hb; have HO := hid hown; clear hb hown)
  by_cases hne : l = []
  · have hre : rightsB n (l.map f) = true := by rw [hne]; rfl
    have hl0 : l.length = 0 := by rw [hne]; rfl
    obtain ⟨a8, c8, rfl, hrd⟩ := HO.out.rd
    have HRD := hid hrd
    have HRE := hid hre
    have HNE := hid hne
    clear hrd hre hne
    go_wp2
    go_loopg [14] 0 (fun gh s14 wr => gh = 0 ∧ s14 = .int .i64 0 ∧ wr = w3)
    case atStart => exact ⟨rfl, rfl, rfl⟩
    case round =>
      obtain ⟨rfl, rfl, rfl⟩ := hrel
      go_wp2
      go_ret2
      refine ⟨HB.out, .inl ⟨HRE.out, a8, c8, ?_, ?_⟩⟩
      · rw [List.length_map]
        rfl
      · rw [HNE.out]
        intro i hi
        exact absurd hi (by simp)
  · obtain ⟨g, c8, rfl, hg, hbl⟩ := BL.of_own HO.out hne
    have hpos : 0 < l.length := by cases l with | nil => exact absurd rfl hne | cons _ _ => exact Nat.succ_pos _
    have HN := hid (And.intro hg hbl)
    clear HO hg hbl hne
    go_wp2
    go_loopg [14] l.length (fun gh s14 wr => ∃ j : Nat, j ≤ l.length ∧ gh = l.length - j ∧ s14 = .int .i64 j ∧ Hid (BL wr g (chgd f l j) ∧ But g w3 wr ∧ ∀ i (h : i < l.length), i < j → rightB n (f l[i]) = true))
    case atStart => exact ⟨0, Nat.zero_le _, rfl, rfl, hid ⟨by rw [chgd_zero]; exact HN.out.2, But.refl _ _, fun _ _ h => absurd h (Nat.not_lt_zero _)⟩⟩
    case round =>
      obtain ⟨j, hj, rfl, rfl, HW⟩ := hrel
      have hBw : Hid (Below w.heap.size w wr) := hid (HB.out.trans (HW.out.2.1.below HN.out.1 HB.out.size))
      by_cases hlt : j < l.length
      · have hlt' : j < (chgd f l j).length := by rw [chgd_len]; exact hlt
        have HX := hid (chgd_at f l j hlt)
        have hk1 : wr.cell? ⟨b1, 0, none⟩ = some (.int .i64 k) := (HB.out.trans (HW.out.2.1.below HN.out.1 HB.out.size)).cell (p := ⟨b1, 0, none⟩) HC1.out.2 |>.trans HC1.out.1
        have HK1 := hid hk1
        clear hk1
        go_upto_region 6 with (go_at_call 89; (with_reducible refine (turn89 (chgd f l j) j hlt' k g b1 _ HW.out.1 HK1.out (Nat.lt_of_lt_of_le HC1.out.2 hBw.out.size) (Nat.ne_of_lt (Nat.lt_of_lt_of_le HC1.out.2 HN.out.1)) ?_ ?_).mono ?_); rotate_left 2; rintro e w4 ⟨rfl, hbl4, hbut4⟩; have H4 := hid (And.intro hbl4 hbut4); clear hbl4 hbut4)
        case refine_1 =>
          rw [HX.out]
          exact (HR.out j hlt).1
        case refine_2 =>
          rw [HX.out]
          exact (HR.out j hlt).2.1
        case refine_3 =>
          obtain ⟨x, hx⟩ : ∃ x, x = f l[j] := ⟨_, rfl⟩
          have H5 : Hid (BL w4 g (chgd f l (j + 1)) ∧ But g w3 w4) := hid ⟨by
            have := H4.out.1
            rw [HX.out, ← HF.out, chgd_set f l j hlt] at this
            exact this, HW.out.2.1.trans H4.out.2⟩
          have hat : AMat w4 g (j * 5) x := by
            have := H4.out.1.at (i := j) (by rw [List.length_set]; exact hlt')
            rw [List.getElem_set_self, HX.out, ← HF.out, ← hx] at this
            exact this
          obtain ⟨rb, hrb⟩ : ∃ rb, rb = rightB n x := ⟨_, rfl⟩
          have HRB := hid hrb
          have HXX := hid hx
          obtain ⟨A, P, B, Q, M⟩ := x
          obtain ⟨p0, p1, p2, p3, p4⟩ := hat
          simp only at p0 p1 p2 p3 p4
          have hB4 : Hid (Below w.heap.size w w4) := hid (HB.out.trans (H5.out.2.below HN.out.1 HB.out.size))
          clear hrb hx HX hlt' HK1 hBw H4
          cases rb with
          | true =>
            go_wp2_with (go_at_call 75; (with_reducible refine (right_any n A P B Q M hn hn' _).mono ?_); rw [← HRB.out]; rintro e w5 ⟨rfl, hb5⟩)
            go_roundg (l.length - (j + 1))
            case rel =>
              refine ⟨j + 1, by omega, rfl, by go_num, hid ⟨H5.out.1.below hb5, H5.out.2.trans (But.of_below hb5), fun i h hi => ?_⟩⟩
              by_cases e : i = j
              · subst e
                rw [← HXX.out, ← HRB.out]
              · exact HW.out.2.2 i h (by omega)
            case measure => omega
          | false =>
            go_wp2_with (go_at_call 75; (with_reducible refine (right_any n A P B Q M hn hn' _).mono ?_); rw [← HRB.out]; rintro e w5 ⟨rfl, hb5⟩)
            go_ret2
            exact ⟨hB4.out.step hb5, .inr ⟨chgd_bad hlt (by rw [← HXX.out, ← HRB.out]), rfl⟩⟩
      · obtain rfl : j = l.length := by omega
        go_wp2
        go_ret2
        refine ⟨hBw.out, .inl ⟨?_, some ⟨g, 0, none⟩, c8, ?_, ?_⟩⟩
        · rw [rightsB, List.all_eq_true]
          intro x hx
          obtain ⟨y, hy, rfl⟩ := List.mem_map.1 hx
          obtain ⟨i, hi, rfl⟩ := List.getElem_of_mem hy
          exact HW.out.2.2 i hi hi
        · rw [List.length_map]
          rfl
        · have := HW.out.1.rd
          rw [chgd_all] at this
          exact this

set_option maxRecDepth 100000 in
set_option maxHeartbeats 4000000 in
theorem changed87 (n : Int) (hn : 1 ≤ n) (hn' : n ≤ 12) (k y : Int) (l : List AM) (a : Option Addr) (cap : Nat) (b1 b2 : Nat) (w : World) (hl : Rd w a l) (hlen : l.length ≤ 64) (hr : rightsB n l = true)
    (hb1 : w.cell? ⟨b1, 0, none⟩ = some (.int .i64 k)) (hbl1 : b1 < w.heap.size) (hb2 : w.cell? ⟨b2, 0, none⟩ = some (.int .i64 y)) (hbl2 : b2 < w.heap.size) (hy : -1000000 ≤ y ∧ y ≤ 1000000) :
    Calls Try.prog 86 #[.int .i64 n, .slice a l.length cap, .func (.func 87) #[] #[.pointer (some ⟨b1, 0, none⟩), .pointer (some ⟨b2, 0, none⟩)]] w (ChgP n (l.map (shiftA k y)) w) := by
  obtain ⟨f, hf⟩ : ∃ f, f = shiftA k y := ⟨_, rfl⟩
  rw [← hf]
  have HF := hid hf
  have HL := hid hl
  have HR := hid (fun i (h : i < l.length) => right_parts (List.all_eq_true.1 hr _ (List.getElem_mem h)))
  have HC1 := hid (And.intro hb1 hbl1)
  have HC2 := hid (And.intro hb2 (And.intro hbl2 hy))
  clear hl hf hr hb1 hbl1 hb2 hbl2 hy
  go_enter Try.func86, Try.ntmps86
  go_upto_region 2 with (go_at_call 82; (with_reducible refine (clone_lines l a cap _ HL.out (by omega)).mono ?_); rintro e w3 ⟨hb, v, rfl, hown⟩; have HB := hid hb; have HO := hid hown; clear hb hown)
  by_cases hne : l = []
  · have hre : rightsB n (l.map f) = true := by rw [hne]; rfl
    have hl0 : l.length = 0 := by rw [hne]; rfl
    obtain ⟨a8, c8, rfl, hrd⟩ := HO.out.rd
    have HRD := hid hrd
    have HRE := hid hre
    have HNE := hid hne
    clear hrd hre hne
    go_wp2
    go_loopg [14] 0 (fun gh s14 wr => gh = 0 ∧ s14 = .int .i64 0 ∧ wr = w3)
    case atStart => exact ⟨rfl, rfl, rfl⟩
    case round =>
      obtain ⟨rfl, rfl, rfl⟩ := hrel
      go_wp2
      go_ret2
      refine ⟨HB.out, .inl ⟨HRE.out, a8, c8, ?_, ?_⟩⟩
      · rw [List.length_map]
        rfl
      · rw [HNE.out]
        intro i hi
        exact absurd hi (by simp)
  · obtain ⟨g, c8, rfl, hg, hbl⟩ := BL.of_own HO.out hne
    have hpos : 0 < l.length := by cases l with | nil => exact absurd rfl hne | cons _ _ => exact Nat.succ_pos _
    have HN := hid (And.intro hg hbl)
    clear HO hg hbl hne
    go_wp2
    go_loopg [14] l.length (fun gh s14 wr => ∃ j : Nat, j ≤ l.length ∧ gh = l.length - j ∧ s14 = .int .i64 j ∧ Hid (BL wr g (chgd f l j) ∧ But g w3 wr ∧ ∀ i (h : i < l.length), i < j → rightB n (f l[i]) = true))
    case atStart => exact ⟨0, Nat.zero_le _, rfl, rfl, hid ⟨by rw [chgd_zero]; exact HN.out.2, But.refl _ _, fun _ _ h => absurd h (Nat.not_lt_zero _)⟩⟩
    case round =>
      obtain ⟨j, hj, rfl, rfl, HW⟩ := hrel
      have hBw : Hid (Below w.heap.size w wr) := hid (HB.out.trans (HW.out.2.1.below HN.out.1 HB.out.size))
      by_cases hlt : j < l.length
      · have hlt' : j < (chgd f l j).length := by rw [chgd_len]; exact hlt
        have HX := hid (chgd_at f l j hlt)
        have hk1 : wr.cell? ⟨b1, 0, none⟩ = some (.int .i64 k) := (HB.out.trans (HW.out.2.1.below HN.out.1 HB.out.size)).cell (p := ⟨b1, 0, none⟩) HC1.out.2 |>.trans HC1.out.1
        have HK1 := hid hk1
        clear hk1
        have hk2 : wr.cell? ⟨b2, 0, none⟩ = some (.int .i64 y) := (HB.out.trans (HW.out.2.1.below HN.out.1 HB.out.size)).cell (p := ⟨b2, 0, none⟩) HC2.out.2.1 |>.trans HC2.out.1
        have HK2 := hid hk2
        clear hk2
        go_upto_region 6 with (go_at_call 87; (with_reducible refine (shift87 (chgd f l j) j hlt' k y g b1 b2 _ HW.out.1 HK1.out (Nat.lt_of_lt_of_le HC1.out.2 hBw.out.size) (Nat.ne_of_lt (Nat.lt_of_lt_of_le HC1.out.2 HN.out.1)) HK2.out (Nat.lt_of_lt_of_le HC2.out.2.1 hBw.out.size) (Nat.ne_of_lt (Nat.lt_of_lt_of_le HC2.out.2.1 HN.out.1)) ?_ ?_ ?_ ?_).mono ?_); rotate_left 4; rintro e w4 ⟨rfl, hbl4, hbut4⟩; have H4 := hid (And.intro hbl4 hbut4); clear hbl4 hbut4)
        case refine_1 =>
          rw [HX.out]
          exact (HR.out j hlt).1
        case refine_2 =>
          rw [HX.out]
          exact (HR.out j hlt).2.1
        case refine_3 =>
          rw [HX.out]
          exact (HR.out j hlt).2.2
        case refine_4 => exact HC2.out.2.2
        case refine_5 =>
          obtain ⟨x, hx⟩ : ∃ x, x = f l[j] := ⟨_, rfl⟩
          have H5 : Hid (BL w4 g (chgd f l (j + 1)) ∧ But g w3 w4) := hid ⟨by
            have := H4.out.1
            rw [HX.out, ← HF.out, chgd_set f l j hlt] at this
            exact this, HW.out.2.1.trans H4.out.2⟩
          have hat : AMat w4 g (j * 5) x := by
            have := H4.out.1.at (i := j) (by rw [List.length_set]; exact hlt')
            rw [List.getElem_set_self, HX.out, ← HF.out, ← hx] at this
            exact this
          obtain ⟨rb, hrb⟩ : ∃ rb, rb = rightB n x := ⟨_, rfl⟩
          have HRB := hid hrb
          have HXX := hid hx
          obtain ⟨A, P, B, Q, M⟩ := x
          obtain ⟨p0, p1, p2, p3, p4⟩ := hat
          simp only at p0 p1 p2 p3 p4
          have hB4 : Hid (Below w.heap.size w w4) := hid (HB.out.trans (H5.out.2.below HN.out.1 HB.out.size))
          clear hrb hx HX hlt' HK1 HK2 hBw H4
          cases rb with
          | true =>
            go_wp2_with (go_at_call 75; (with_reducible refine (right_any n A P B Q M hn hn' _).mono ?_); rw [← HRB.out]; rintro e w5 ⟨rfl, hb5⟩)
            go_roundg (l.length - (j + 1))
            case rel =>
              refine ⟨j + 1, by omega, rfl, by go_num, hid ⟨H5.out.1.below hb5, H5.out.2.trans (But.of_below hb5), fun i h hi => ?_⟩⟩
              by_cases e : i = j
              · subst e
                rw [← HXX.out, ← HRB.out]
              · exact HW.out.2.2 i h (by omega)
            case measure => omega
          | false =>
            go_wp2_with (go_at_call 75; (with_reducible refine (right_any n A P B Q M hn hn' _).mono ?_); rw [← HRB.out]; rintro e w5 ⟨rfl, hb5⟩)
            go_ret2
            exact ⟨hB4.out.step hb5, .inr ⟨chgd_bad hlt (by rw [← HXX.out, ← HRB.out]), rfl⟩⟩
      · obtain rfl : j = l.length := by omega
        go_wp2
        go_ret2
        refine ⟨hBw.out, .inl ⟨?_, some ⟨g, 0, none⟩, c8, ?_, ?_⟩⟩
        · rw [rightsB, List.all_eq_true]
          intro x hx
          obtain ⟨y, hy, rfl⟩ := List.mem_map.1 hx
          obtain ⟨i, hi, rfl⟩ := List.getElem_of_mem hy
          exact HW.out.2.2 i hi hi
        · rw [List.length_map]
          rfl
        · have := HW.out.1.rd
          rw [chgd_all] at this
          exact this


/-- What Turned and Shifted return: the fault c, or what changed returns. -/
def TurP (c n : Int) (r : List AM) (w : World) (e : Ending) (w' : World) : Prop :=
  (c = 0 ∧ ChgP n r w e w') ∨ (c ≠ 0 ∧ Below w.heap.size w w' ∧ e = .returned (.tuple #[.slice none 0 0, .int .i64 c]))
theorem indexN_in {n : Int} {l : List AM} {k : Int} (h : indexN n l k = 0) : (1 ≤ n ∧ n ≤ 12) ∧ rightsB n l = true ∧ 0 ≤ k ∧ k ≤ n - 1 := by
  unfold indexN at h
  split at h
  · rename_i hc
    obtain ⟨h1, _, h2⟩ := checkN_in hc
    split at h
    · rename_i hk
      simp only [inB, decide_eq_true_eq] at hk
      exact ⟨h1, h2, hk⟩
    · cases h
  · exact absurd h (by assumption)

set_option maxRecDepth 100000 in
set_option maxHeartbeats 2000000 in
theorem turned_any (n : Int) (l : List AM) (k : Int) (a : Option Addr) (cap : Nat) (w : World) (hl : Rd w a l) (hlen : l.length ≤ 64) :
    Calls Try.prog 46 #[.int .i64 n, .slice a l.length cap, .int .i64 k] w (TurP (indexN n l k) n (l.map (turnA k)) w) := by
  have HL := hid hl
  clear hl
  by_cases h0 : indexN n l k = 0
  · obtain ⟨⟨hn1, hn2⟩, hr, _⟩ := indexN_in h0
    have H0 := hid h0
    have HR := hid hr
    clear h0 hr
    go_enter Try.func46, Try.ntmps46
    go_wp2_with (first
      | (go_at_call 62; (with_reducible refine (index_any n l k a cap _ (HL.out.below (bnew _ _)) (by omega)).mono ?_); rw [H0.out]; rintro e w2 ⟨rfl, hb⟩; have HB := hid hb; clear hb)
      | (go_at_call 86; (with_reducible refine (changed89 n hn1 hn2 k l a cap w.heap.size _ (HL.out.below ((bnew _ _).step HB.out)) hlen HR.out (HB.out.cell (p := ⟨w.heap.size, 0, none⟩) (lt_alloc _ _) |>.trans (cell0_alloc _ _ _)) (Nat.lt_of_lt_of_le (lt_alloc _ _) HB.out.size)).mono ?_); rintro e w3 ⟨hb, ⟨hre, a2, c2, rfl, hrd⟩ | ⟨hre, rfl⟩⟩ <;> have HC := hid hb <;> clear hb <;> have HRE := hid hre <;> clear hre))
    · have HRD := hid hrd
      clear hrd
      go_ret2
      exact .inl ⟨H0.out, ((bnew _ _).step HB.out).step HC.out, .inl ⟨HRE.out, a2, c2, by rw [List.length_map]; rfl, HRD.out⟩⟩
    · go_ret2
      exact .inl ⟨H0.out, ((bnew _ _).step HB.out).step HC.out, .inr ⟨HRE.out, rfl⟩⟩
  · obtain ⟨c, hc⟩ : ∃ c, c = indexN n l k := ⟨_, rfl⟩
    rw [← hc] at h0 ⊢
    have HC := hid hc
    have H0 := hid h0
    have hz : (c == 0) = false := by simpa using h0
    clear hc h0
    go_enter Try.func46, Try.ntmps46
    go_wp2_with (go_at_call 62; (with_reducible refine (index_any n l k a cap _ (HL.out.below (bnew _ _)) (by omega)).mono ?_); rw [← HC.out]; rintro e w2 ⟨rfl, hb⟩; have HB := hid hb; clear hb)
    go_ret2
    exact .inr ⟨H0.out, (bnew _ _).step HB.out, rfl⟩

def shiftE (n : Int) (l : List AM) (k y : Int) : Int := if indexN n l k = 0 then (if inB y (-1000000) 1000000 then 0 else 1) else indexN n l k
theorem bnew2 (w : World) (o o' : Obj) : Below w.heap.size w ((w.alloc o).alloc o') := (bnew _ _).step (bnew _ _)
theorem cell_first {w w2 : World} {u v : Value} {T T' : TypeId} (hb : Below ((w.alloc (.cells #[u] T)).alloc (.cells #[v] T')).heap.size ((w.alloc (.cells #[u] T)).alloc (.cells #[v] T')) w2) : w2.cell? ⟨w.heap.size, 0, none⟩ = some u ∧ w.heap.size < w2.heap.size := by
  have h1 : w.heap.size < ((w.alloc (.cells #[u] T)).alloc (.cells #[v] T')).heap.size := by simp; omega
  refine ⟨?_, Nat.lt_of_lt_of_le h1 hb.size⟩
  rw [hb.cell (p := ⟨w.heap.size, 0, none⟩) h1, (bnew (w.alloc (.cells #[u] T)) (.cells #[v] T')).cell (p := ⟨w.heap.size, 0, none⟩) (lt_alloc _ _)]
  exact cell0_alloc _ _ _
theorem cell_second {w w2 : World} {u v : Value} {T T' : TypeId} (hb : Below ((w.alloc (.cells #[u] T)).alloc (.cells #[v] T')).heap.size ((w.alloc (.cells #[u] T)).alloc (.cells #[v] T')) w2) : w2.cell? ⟨w.heap.size + 1, 0, none⟩ = some v ∧ w.heap.size + 1 < w2.heap.size := by
  have h1 : w.heap.size + 1 < ((w.alloc (.cells #[u] T)).alloc (.cells #[v] T')).heap.size := by simp
  refine ⟨?_, Nat.lt_of_lt_of_le h1 hb.size⟩
  rw [hb.cell (p := ⟨w.heap.size + 1, 0, none⟩) h1]
  have := cell0_alloc (w.alloc (.cells #[u] T)) v T'
  rw [show (w.alloc (.cells #[u] T)).heap.size = w.heap.size + 1 by simp] at this
  exact this
set_option maxRecDepth 100000 in
set_option maxHeartbeats 2000000 in
theorem shifted_any (n : Int) (l : List AM) (k y : Int) (a : Option Addr) (cap : Nat) (w : World) (hl : Rd w a l) (hlen : l.length ≤ 64) :
    Calls Try.prog 44 #[.int .i64 n, .slice a l.length cap, .int .i64 k, .int .i64 y] w (TurP (shiftE n l k y) n (l.map (shiftA k y)) w) := by
  have HL := hid hl
  clear hl
  by_cases h0 : indexN n l k = 0
  · obtain ⟨⟨hn1, hn2⟩, hr, _⟩ := indexN_in h0
    have H0 := hid h0
    have HR := hid hr
    unfold shiftE
    rw [if_pos h0]
    clear h0 hr
    cases hy : inB y (-1000000) 1000000 with
    | true =>
      have HY := hid hy
      have HY2 := hid (show -1000000 ≤ y ∧ y ≤ 1000000 by simpa [inB] using hy)
      clear hy
      go_enter Try.func44, Try.ntmps44
      go_wp2_with (first
        | (go_at_call 62; (with_reducible refine (index_any n l k a cap _ (HL.out.below (bnew2 _ _ _)) (by omega)).mono ?_); rw [H0.out]; rintro e w2 ⟨rfl, hb⟩; have HB := hid hb; have p7 := (cell_second hb).1; clear hb)
        | (go_at_call 71; (with_reducible refine (within_any _ _ _ _).mono ?_); rw [HY.out]; rintro e w2 ⟨rfl, rfl⟩)
        | (go_at_call 86; (with_reducible refine (changed87 n hn1 hn2 k y l a cap w.heap.size (w.heap.size + 1) _ (HL.out.below ((bnew2 _ _ _).step HB.out)) hlen HR.out (cell_first HB.out).1 (cell_first HB.out).2 (cell_second HB.out).1 (cell_second HB.out).2 HY2.out).mono ?_); rintro e w3 ⟨hb, ⟨hre, a2, c2, rfl, hrd⟩ | ⟨hre, rfl⟩⟩ <;> have HC := hid hb <;> clear hb <;> have HRE := hid hre <;> clear hre))
      · have HRD := hid hrd
        clear hrd
        go_ret2
        exact .inl ⟨rfl, ((bnew2 _ _ _).step HB.out).step HC.out, .inl ⟨HRE.out, a2, c2, by rw [List.length_map]; rfl, HRD.out⟩⟩
      · go_ret2
        exact .inl ⟨rfl, ((bnew2 _ _ _).step HB.out).step HC.out, .inr ⟨HRE.out, rfl⟩⟩
    | false =>
      have HY := hid hy
      clear hy
      go_enter Try.func44, Try.ntmps44
      go_wp2_with (first
        | (go_at_call 62; (with_reducible refine (index_any n l k a cap _ (HL.out.below (bnew2 _ _ _)) (by omega)).mono ?_); rw [H0.out]; rintro e w2 ⟨rfl, hb⟩; have HB := hid hb; have p7 := (cell_second hb).1; clear hb)
        | (go_at_call 71; (with_reducible refine (within_any _ _ _ _).mono ?_); rw [HY.out]; rintro e w2 ⟨rfl, rfl⟩))
      go_ret2
      exact .inr ⟨by decide, (bnew2 _ _ _).step HB.out, rfl⟩
  · unfold shiftE
    rw [if_neg h0]
    obtain ⟨c, hc⟩ : ∃ c, c = indexN n l k := ⟨_, rfl⟩
    rw [← hc] at h0 ⊢
    have HC := hid hc
    have H0 := hid h0
    have hz : (c == 0) = false := by simpa using h0
    clear hc h0
    go_enter Try.func44, Try.ntmps44
    go_wp2_with (go_at_call 62; (with_reducible refine (index_any n l k a cap _ (HL.out.below (bnew2 _ _ _)) (by omega)).mono ?_); rw [← HC.out]; rintro e w2 ⟨rfl, hb⟩; have HB := hid hb; clear hb)
    go_ret2
    exact .inr ⟨H0.out, (bnew2 _ _ _).step HB.out, rfl⟩


/-- Lines' == in the model. -/
theorem eq24 (a b : AM) (w : World) : (Op.equalIn 10000 24 (.agg #[.int .i64 a.A, .int .i64 a.P, .int .i64 a.B, .int .i64 a.Q, .int .i64 a.M]) (.agg #[.int .i64 b.A, .int .i64 b.P, .int .i64 b.B, .int .i64 b.Q, .int .i64 b.M])).run Try.prog w = .ok (decide (a = b)) w := by
  have u3 := Try.underlying3
  have a3 := Try.isAgg3
  have z3 := Try.sizeOf3
  have hS : Try.prog.underlying 24 = some (.struct (Try.prog.fieldsOf 24)) := by kernel_rfl
  have hp : Try.prog.stoodInHeld 24 = false := by kernel_rfl
  rw [show (10000 : Nat) = 9999 + 1 from rfl, run_equalIn_agg w 9999 24 _ _ hS hp]
  simp only [Program.fieldsOf, Try.underlying24]
  go_simp
  obtain ⟨A, P, B, Q, M⟩ := a
  obtain ⟨A', P', B', Q', M'⟩ := b
  by_cases h1 : A = A' <;> by_cases h2 : P = P' <;> by_cases h3 : B = B' <;> by_cases h4 : Q = Q' <;> by_cases h5 : M = M' <;> simp [h1, h2, h3, h4, h5]
theorem neq24 (A P B Q M A' P' B' Q' M' : Int) (w : World) : (binOp .neq 24 (.agg #[.int .i64 A, .int .i64 P, .int .i64 B, .int .i64 Q, .int .i64 M]) (.agg #[.int .i64 A', .int .i64 P', .int .i64 B', .int .i64 Q', .int .i64 M'])).run Try.prog w = .ok (.bool (!decide ((⟨A, P, B, Q, M⟩ : AM) = ⟨A', P', B', Q', M'⟩))) w := by
  rw [run_neq_struct, eq24 ⟨A, P, B, Q, M⟩ ⟨A', P', B', Q', M'⟩]
  rfl
set_option maxRecDepth 100000 in
set_option maxHeartbeats 1000000 in
theorem same_lines (x y : List AM) (a b : Option Addr) (cap cap' : Nat) (w : World) (hx : Rd w a x) (hy : Rd w b y) (hl : x.length ≤ 1000000) (hl' : y.length ≤ 1000000) :
    Calls Try.prog 49 #[.slice a x.length cap, .slice b y.length cap'] w (RetB (.bool (decide (x = y))) w) := by
  have HX := hid hx; clear hx
  have HY := hid hy; clear hy
  by_cases hlen : x.length = y.length
  · have HLEN := hid hlen
    have hne : ((x.length : Int) != (y.length : Int)) = false := by simp [hlen]
    clear hlen
    go_enter Try.func49, Try.ntmps49
    go_wp2
    clear hne
    go_loopw [5] (fun i wr => ∃ k : Nat, k ≤ x.length ∧ i = .int .i64 k ∧ Below w.heap.size w wr ∧ x.take k = y.take k) (fun i _ => x.length - (intOf i).toNat)
    case atStart => exact ⟨0, Nat.zero_le _, rfl, Below.refl _ _, rfl⟩
    case round =>
      obtain ⟨k, hk, rfl, hbw, hq⟩ := hrel
      have HQ := hid hq; clear hq
      by_cases hlt : k < x.length
      · have hlt' : k < y.length := by have := HLEN.out; omega
        obtain ⟨b1, o1, ha, h1, p0, p1, p2, p3, p4⟩ := HX.out.below hbw k hlt
        obtain ⟨b2, o2, hb, h2, q0, q1, q2, q3, q4⟩ := HY.out.below hbw k hlt'
        subst ha; subst hb
        obtain ⟨u, hu⟩ : ∃ u, u = x[k] := ⟨_, rfl⟩
        obtain ⟨v, hv⟩ : ∃ v, v = y[k] := ⟨_, rfl⟩
        rw [← hu] at p0 p1 p2 p3 p4
        rw [← hv] at q0 q1 q2 q3 q4
        have HU := hid hu
        have HV := hid hv
        clear hu hv
        obtain ⟨A, P, B, Q, M⟩ := u
        obtain ⟨A', P', B', Q', M'⟩ := v
        simp only at p0 p1 p2 p3 p4 q0 q1 q2 q3 q4
        have q24 := fun w => neq24 A P B Q M A' P' B' Q' M' w
        have g24 : Try.prog.eqGuardType Try.prog.depth 24 = false := by kernel_rfl
        go_upto_region 6 with fail
        go_quiet (fail)
        go_wp2
        · rename_i h
          go_ret
          refine ⟨ret_bool ?_, bdrewN hbw _⟩
          rw [eq_comm, decide_eq_false_iff_not]
          intro exy
          have e : (⟨A, P, B, Q, M⟩ : AM) = ⟨A', P', B', Q', M'⟩ := by
            rw [HU.out, HV.out]
            congr 1
          injection e with e1 e2 e3 e4 e5
          simp [e1, e2, e3, e4, e5] at h
        · rename_i h
          have e : (⟨A, P, B, Q, M⟩ : AM) = ⟨A', P', B', Q', M'⟩ := by
            rw [AM.mk.injEq]
            simpa using h
          go_roundw
          case rel =>
            refine ⟨k + 1, by omega, by go_num, bdrewN hbw _, ?_⟩
            rw [take_last hlt, take_last hlt', HQ.out, ← HU.out, ← HV.out, e]
          case measure => simp [intOf]; omega
      · go_wp2
        go_ret
        refine ⟨ret_bool ?_, hbw⟩
        rw [eq_comm, decide_eq_true_eq]
        have h := HQ.out
        rw [List.take_of_length_le (by omega), List.take_of_length_le (by have := HLEN.out; omega)] at h
        exact h
  · have hne : ((x.length : Int) != (y.length : Int)) = true := by simp; omega
    go_enter Try.func49, Try.ntmps49
    go_wp2
    go_ret
    refine ⟨ret_bool ?_, Below.refl _ _⟩
    rw [eq_comm, decide_eq_false_iff_not]
    rintro rfl
    exact hlen rfl


set_option maxRecDepth 100000 in
set_option maxHeartbeats 4000000 in
theorem alike_yes (n : Int) (l m : List AM) (a b : Option Addr) (cap cap' : Nat) (w : World) (hl : Rd w a l) (hm : Rd w b m) (hlen : l.length ≤ 1000000) (hlen' : m.length ≤ 1000000)
    (hcl : checkN n l = 0) (hcm : checkN n m = 0) (hp : possV n m = possV n l) (hn : neededL n m = neededL n l) (hs : coreL n m = coreL n l) (hb : coreB n m = coreB n l) (hnl : (neededL n l).length ≤ 1000000) (hsl : (coreL n l).length ≤ 1000000) :
    Calls Try.prog 50 #[.int .i64 n, .slice a l.length cap, .slice b m.length cap'] w (RetB (.bool true) w) := by
  obtain ⟨P, hP⟩ : ∃ P, P = possV n l := ⟨_, rfl⟩
  obtain ⟨N, hN⟩ : ∃ N, N = neededL n l := ⟨_, rfl⟩
  obtain ⟨S, hS⟩ : ∃ S, S = coreL n l := ⟨_, rfl⟩
  obtain ⟨B, hB⟩ : ∃ B, B = coreB n l := ⟨_, rfl⟩
  rw [← hP] at hp
  rw [← hN] at hn hnl
  rw [← hS] at hs hsl
  rw [← hB] at hb
  have HL := hid hl
  have HM := hid hm
  have HE := hid (And.intro hcl hcm)
  have HQ := hid (And.intro hP (And.intro hN (And.intro hS hB)))
  have HR := hid (And.intro hp (And.intro hn (And.intro hs hb)))
  clear hl hm hcl hcm hP hN hS hB hp hn hs hb
  go_enter Try.func50, Try.ntmps50
  go_upto_region 2 with (go_at_call 24; (with_reducible refine (possible_any n l a cap _ HL.out hlen).mono ?_); rw [HE.out.1, ← HQ.out.1]; rintro e w1 ⟨rfl, hbb⟩; have HB := hid hbb; clear hbb)
  go_upto_region 3 with (go_at_call 24; (with_reducible refine (possible_any n m b cap' _ (HM.out.below HB.out) hlen').mono ?_); rw [HE.out.2, HR.out.1]; rintro e w1 ⟨rfl, hbb⟩; have HB := hid (HB.out.step hbb); clear hbb)
  go_upto_region 4 with (go_at_call 26; (with_reducible refine (needed_any n l a cap _ (HL.out.below HB.out) hlen).mono ?_); rw [HE.out.1, ← HQ.out.2.1]; rintro e w1 ⟨hbb, v, rfl, hown⟩; have HB := hid (HB.out.step hbb); obtain ⟨a1, c1, rfl, hr⟩ := hown.rd; have R1 := hid hr; clear hbb hown hr)
  go_upto_region 5 with (go_at_call 26; (with_reducible refine (needed_any n m b cap' _ (HM.out.below HB.out) hlen').mono ?_); rw [HE.out.2, HR.out.2.1]; rintro e w1 ⟨hbb, v, rfl, hown⟩; have HB := hid (HB.out.step hbb); obtain ⟨a2, c2, rfl, hr⟩ := hown.rd; have R2 := hid hr; have R1 := hid (R1.out.below hbb); clear hbb hown hr)
  go_upto_region 6 with (go_at_call 28; (with_reducible refine (core_any n l a cap _ (HL.out.below HB.out) hlen).mono ?_); rw [HE.out.1, ← HQ.out.2.2.1, ← HQ.out.2.2.2]; rintro e w1 ⟨hbb, v, rfl, hown⟩; have HB := hid (HB.out.step hbb); obtain ⟨a3, c3, rfl, hr⟩ := hown.rd; have R3 := hid hr; have R1 := hid (R1.out.below hbb); have R2 := hid (R2.out.below hbb); clear hbb hown hr)
  go_upto_region 7 with (go_at_call 28; (with_reducible refine (core_any n m b cap' _ (HM.out.below HB.out) hlen').mono ?_); rw [HE.out.2, HR.out.2.2.1, HR.out.2.2.2]; rintro e w1 ⟨hbb, v, rfl, hown⟩; have HB := hid (HB.out.step hbb); obtain ⟨a4, c4, rfl, hr⟩ := hown.rd; have R4 := hid hr; have R1 := hid (R1.out.below hbb); have R2 := hid (R2.out.below hbb); have R3 := hid (R3.out.below hbb); clear hbb hown hr)
  have e1 : (P == P) = true := by simp
  have e2 : (B == B) = true := by simp
  go_wp2_with (first
    | (go_at_call 48; (with_reducible refine (same_ints N N a1 a2 c1 c2 _ R1.out R2.out hnl hnl).mono ?_); rw [show decide (N = N) = true from decide_eq_true rfl]; rintro e w1 ⟨rfl, hbb⟩; have HB := hid (HB.out.step hbb); have R3 := hid (R3.out.below hbb); have R4 := hid (R4.out.below hbb); clear hbb)
    | (go_at_call 48; ((with_reducible refine (same_ints S S a3 a4 c3 c4 _ R3.out R4.out hsl hsl).mono ?_); rw [show decide (S = S) = true from decide_eq_true rfl]; rintro e w1 ⟨rfl, hbb⟩; have HB := hid (HB.out.step hbb); clear hbb)))
  go_ret
  exact ⟨ret_bool rfl, HB.out⟩
end Go.Proofs.Ytnjbahiaelehkaa
