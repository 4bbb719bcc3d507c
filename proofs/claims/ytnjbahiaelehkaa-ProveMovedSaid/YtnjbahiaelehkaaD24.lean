/- Span once more, with bounds of its ends. append of numbers, and a block of numbers that is written. -/
import Derived.Test.YtnjbahiaelehkaaA15
import Derived.Test.YtnjbahiaelehkaaC6
import Derived.Test.YtnjbahiaelehkaaA18
namespace Go.Proofs.Ytnjbahiaelehkaa
open Go.RowKit


set_option maxRecDepth 100000 in
set_option maxHeartbeats 1000000 in
theorem span_lim (n : Int) (l : List AM) (k : Int) (a : Option Addr) (cap : Nat) (w : World) (hl : Rd w a l) (hlen : l.length ≤ 1000000) :
    Calls Try.prog 20 #[.int .i64 n, .slice a l.length cap, .int .i64 k] w (fun e w' => Ret3 (.int .i64 (spanLo n l k)) (.int .i64 (spanHi n l k)) (.int .i64 (spanE n l k)) w e w' ∧ (spanE n l k = 0 → (-1152921504606846976 ≤ spanLo n l k ∧ spanLo n l k ≤ 1152921504606846976) ∧ (-1152921504606846976 ≤ spanHi n l k ∧ spanHi n l k ≤ 1152921504606846976))) := by
  have HL := hid hl; clear hl
  by_cases h0 : indexN n l k = 0
  · have hc0 : checkN n l = 0 := by
      unfold indexN at h0; split at h0
      · assumption
      · exact h0
    have hk0 : inB k 0 (n - 1) = true := by
      unfold indexN at h0; rw [if_pos hc0] at h0; split at h0
      · assumption
      · cases h0
    obtain ⟨⟨hn1, hn2⟩, _, hrs⟩ := checkN_in hc0
    obtain ⟨N, rfl⟩ : ∃ N : Nat, n = (N : Int) := ⟨n.toNat, by omega⟩
    have hN : N ≤ 12 := by omega
    have hkr : 0 ≤ k ∧ k ≤ N - 1 := by simpa [inB] using hk0
    obtain ⟨hk1, hk2⟩ := hkr
    have HOK := hid (rights_ok hrs)
    have H0 := hid h0
    clear h0 hc0 hk0 hrs
    go_enter Try.func20, Try.ntmps20
    go_upto_region 4 with (go_at_call 62; refine (index_any _ l k a cap _ HL.out (by omega)).mono ?_; rw [H0.out]; rintro e w1 ⟨rfl, hb1⟩)
    have HB1 := hid hb1; clear hb1
    go_cut [10] (fun s9 wx => ∃ c : Nat, s9 = .pointer (some ⟨c, 0, none⟩) ∧ ShutAt l N 1000000 c wx ∧ Below w1.heap.size w1 wx)
    case first =>
      go_wp2_with (first | (go_at_call 57; refine (shut_any N hN _ l a cap 1000000 HOK.out hM6 hF6 (HL.out.below HB1.out) hlen).mono ?_; rintro e w2 ⟨hb2, C, M, no, tp, ty, D, T, rfl, cv, hm, hbd, hor⟩; have HX := hid (And.intro hb2 (And.intro cv (And.intro hm (And.intro hbd hor)))); clear hb2 cv hm hbd hor) | (refine wpList_store_row rfl 105 (.tmp 10) (.tmp 22) rfl _ C rfl rfl 105 _ (heapn _ _ _ rfl) (by rw [HX.out.2.1.size]; exact size105) (by rw [HX.out.2.1.size]; rfl) HX.out.2.1.one ?_))
      go_meet
      obtain ⟨hb2, cv, hm, hbd, hor⟩ := HX.out
      exact ⟨_, rfl, ShutAt.new cv hm hbd hor, hb2.step newRow_below⟩
    case rest =>
      obtain ⟨c, rfl, ⟨C, M, no, tp, ty, D, T, hrow, cv, hm, hbd, hor⟩, hb3⟩ := hcut
      have hcs : CS wc c N M no tp ty := ⟨C, hrow, cv⟩
      have hno := hcs.getNo
      have HB3 := hid hb3; clear hb3
      rcases hor with ⟨d, X, rfl, hd, hno'⟩ | ⟨rfl, hfin, htight, htops⟩
      · have hp := hno'.noposs HOK.out
        have HP := hid hp; clear hp
        clear hcs hrow cv hm hbd hd hno'
        go_wp2
        go_ret3
        exact ⟨⟨by simp [spanLo, spanHi, spanE, H0.out, HP.out], HB1.out.step HB3.out⟩, fun h => by simp [spanE, H0.out, HP.out] at h⟩
      · have HFINE := hid (And.intro hfin (And.intro htight htops)); clear hfin htight htops
        have hi1 : nd k (-1) < 24 := nd_lt24 hN hk1 (by omega)
        have hi2 : nd k 1 < 24 := nd_lt24 hN hk1 (by omega)
        have hi1' : ((nd k (-1) : Nat) : Int) < 24 := by omega
        have hi2' : ((nd k 1 : Nat) : Int) < 24 := by omega
        have q1 := hcs.most hi1
        have q2 := hcs.most hi2
        have r1 := of_res hM6 hN hF6 HFINE.out (span_ok hk1 (by omega) (.inr rfl) : Ok N 1000000 ⟨k, -1, 0, 0, 0⟩)
        have r2 := of_res hM6 hN hF6 HFINE.out (span_ok hk1 (by omega) (.inl rfl) : Ok N 1000000 ⟨k, 1, 0, 0, 0⟩)
        simp only [ofM, if_true] at r1 r2
        obtain ⟨bx1, bx2⟩ := hbd _ hi1
        obtain ⟨by1, by2⟩ := hbd _ hi2
        have hp := HFINE.out.1.poss HFINE.out.2.1
        have HP := hid hp; clear hp
        generalize tp (nd k (-1)) = x at *
        generalize tp (nd k 1) = y at *
        have R1 := hid r1; clear r1
        have R2 := hid r2; clear r2
        clear hcs hrow cv hm hbd
        unfold FF at bx1 bx2 by1 by2
        go_upto_region 7 with fail
        go_region_held3 (fun w' => w'.cell? ⟨c, 2 + nd k (-1) * 2, none⟩ = some (.int .i64 x) ∧ w'.cell? ⟨c, 2 + nd k 1 * 2, none⟩ = some (.int .i64 y)) (go_keep)
          ((go_at_call 63; refine (end_any k _ hk1 (by omega) _).mono ?_; rintro e w' ⟨rfl, rfl⟩))
        all_goals
          have hbl := HB1.out.step (HB3.out.step (bdrew _))
          by_cases hx : x = FF
          · have tx : (x == 1152921504606846976) = true := by simpa using hx
            have HX := hid hx; clear hx
            go_wp2
            go_ret3
            rcases R1.out with ⟨_, e1⟩ | ⟨e1, _⟩
            · exact ⟨⟨by simp [spanLo, spanHi, spanE, spanM, H0.out, HP.out, e1], hbl⟩, fun h => by simp [spanE, spanM, H0.out, HP.out, e1] at h⟩
            · exact absurd HX.out e1
          have tx : (x == 1152921504606846976) = false := by simpa using hx
          have HX := hid hx; clear hx
          by_cases hy : y = FF
          · have ty' : (y == 1152921504606846976) = true := by simpa using hy
            have HY := hid hy; clear hy
            go_wp2
            go_ret3
            rcases R2.out with ⟨_, e2⟩ | ⟨e2, _⟩
            · rcases R1.out with ⟨_, e1⟩ | ⟨_, e1⟩
              · exact ⟨⟨by simp [spanLo, spanHi, spanE, spanM, H0.out, HP.out, e1], hbl⟩, fun h => by simp [spanE, spanM, H0.out, HP.out, e1] at h⟩
              · exact ⟨⟨by simp [spanLo, spanHi, spanE, spanM, H0.out, HP.out, e1, e2], hbl⟩, fun h => by simp [spanE, spanM, H0.out, HP.out, e1, e2] at h⟩
            · exact absurd HY.out e2
          have ty' : (y == 1152921504606846976) = false := by simpa using hy
          have HY := hid hy; clear hy
          go_wp2
          go_ret3
          rcases R1.out with ⟨e1, _⟩ | ⟨_, e1⟩
          · exact absurd e1 HX.out
          rcases R2.out with ⟨e2, _⟩ | ⟨_, e2⟩
          · exact absurd e2 HY.out
          exact ⟨⟨by simp [spanLo, spanHi, spanE, spanM, H0.out, HP.out, e1, e2], hbl⟩, fun _ => by
            have q1 : spanLo (N : Int) l k = -x := by simp [spanLo, spanM, H0.out, HP.out, e1, e2]
            have q2 : spanHi (N : Int) l k = y := by simp [spanHi, spanM, H0.out, HP.out, e1, e2]
            rw [q1, q2]
            omega⟩
  · have hne : (indexN n l k == 0) = false := by simpa using h0
    go_enter Try.func20, Try.ntmps20
    go_wp2_with (go_at_call 62; refine (index_any _ l k a cap _ HL.out (by omega)).mono ?_; rintro e w1 ⟨rfl, hb1⟩)
    go_ret3
    exact ⟨⟨by simp [spanLo, spanHi, spanE, h0], hb1⟩, fun h => by simp [spanE, h0] at h⟩


theorem RdI.cells {w : World} {b off : Nat} {l : List Int} (h : RdI w (some ⟨b, off, none⟩) l) : ∀ j u, (l.map (Value.int .i64))[j]? = some u → w.cell? ((⟨b, off, none⟩ : Addr).add j) = some u := by
  intro j u hu
  have hj : j < l.length := by
    have := (List.getElem?_eq_some_iff.1 hu).1
    rwa [List.length_map] at this
  obtain ⟨b', off', e, hlt, h0⟩ := h j hj
  simp only [Option.some.injEq, Addr.mk.injEq, and_true] at e
  obtain ⟨rfl, rfl⟩ := e
  have ea : ((⟨b, off, none⟩ : Addr).add j) = ⟨b, off + j, none⟩ := by
    unfold Addr.add
    by_cases h0 : j = 0
    · subst h0; simp
    · simp [h0]
  rw [ea, h0]
  simpa [hj] using hu
theorem run_append_ints (w : World) (base : Nat) (ty : TypeId) (v : Value) (l0 l : List Int) (hown : OwnI w base v l0) (a : Option Addr) (c : Nat) (hl : RdI w a l) (hs : l0.length + l.length ≤ 1000000) (hb : base ≤ w.heap.size) :
    ∃ v' w', (Builtin.append_ #[46, 46] ty #[v, .slice a l.length c]).run Try.prog w = .ok v' w' ∧ OwnI w' base v' (l0 ++ l) ∧ w.grownBy w' v.ownBlock ∧ (v'.ownBlock = v.ownBlock ∨ v'.ownBlock = some w.heap.size) := by
  obtain ⟨i0, hi, hz0, hz1, hz2⟩ := info_parts info3
  cases a with
  | none =>
    have hl0 : l = [] := by
      cases l with
      | nil => rfl
      | cons x l =>
        obtain ⟨b, off, e, _⟩ := hl 0 (Nat.succ_pos _)
        cases e
    subst hl0
    refine ⟨v, w, ?_, by rw [List.append_nil]; exact hown, ⟨rfl, rfl, rfl, Nat.le_refl _, fun _ _ _ => rfl⟩, .inl rfl⟩
    rcases hown.2 with ⟨rfl, h0⟩ | ⟨g, cap, cur, rfl, _, _, hnc, _⟩
    · simp [Builtin.append_, run_underlying Try.underlying46, sizeOf, typeInfo, hi, Builtin.lenOf, Builtin.firstCells]
    · simp [Builtin.append_, run_underlying Try.underlying46, sizeOf, typeInfo, hi, Builtin.lenOf, Builtin.firstCells, hnc, storeCells]
  | some ad =>
    have hcells : ∀ j u, (l.map (Value.int .i64))[j]? = some u → w.cell? (ad.add j) = some u := by
      cases l with
      | nil => intro j u hu; simp at hu
      | cons x l =>
        obtain ⟨b, off, e, _⟩ := hl 0 (Nat.succ_pos _)
        injection e with e
        subst e
        exact hl.cells
    have hone : ∀ u ∈ l.map (Value.int .i64), u.oneCell' = true := by
      intro u hu
      obtain ⟨x, _, rfl⟩ := List.mem_map.1 hu
      rfl
    obtain ⟨v', w', h1, h2, h3, _, h5⟩ := run_append_own_at (P := Try.prog) w base 46 ty 3 i0 _ 1 8 Try.underlying46 hi hz0 hz1 hz2 rfl (by decide) v l0.length (l0.map (Value.int .i64)) hown ad l.length c (l.map (Value.int .i64)) (by simp) hcells hone (by unfold maxLen; omega) (by omega) hb
    refine ⟨v', w', h1, ?_, h3, h5⟩
    unfold OwnI
    rw [List.length_append, List.map_append]
    exact h2
theorem wpList_append_ints {ops : Array Oper} {rest : List Oper} {o : Oper} {a : Act} {Q : Exit → Act → World → Prop} (w : World) (hgd : o.guard = none) (s x : Operand)
    (ho : o.op = .call { callee := .builtin .append, args := #[s, x], argTypes := #[46, 46] }) (base : Nat) (v : Value) (l0 l : List Int) (hsv : a.eval s = v) (hown : OwnI w base v l0) (A : Option Addr) (c : Nat) (hx : a.eval x = .slice A l.length c) (hl : RdI w A l) (hs : l0.length + l.length ≤ 1000000) (hb : base ≤ w.heap.size)
    (h : ∀ v' w', OwnI w' base v' (l0 ++ l) → w.grownBy w' v.ownBlock → (v'.ownBlock = v.ownBlock ∨ v'.ownBlock = some w.heap.size) → wpList Try.prog ops Q rest (a.put o.dst v') w') : wpList Try.prog ops Q (o :: rest) a w := by
  refine wpList_plain hgd fun K hK => ?_
  obtain ⟨v', w', hrun, h2, h3, h4⟩ := run_append_ints w base o.type v l0 l hown A c hl hs hb
  unfold Oper.wp execOp
  simp only [ho, resolve, invoke, builtin, Sem.run_bind, Sem.run_pure, Result.andThen_ok, List.map_toArray, List.map_cons, List.map_nil, hsv, hx, hrun]
  exact hK _ _ (h v' w' h2 h3 h4)
theorem OwnI.none {w : World} {base g : Nat} (hb : base ≤ g) (h : w.heap[g]? = some (.cells #[] 3 (0, 0))) : OwnI w base (.slice (some ⟨g, 0, none⟩) 0 0) [] := ⟨rfl, .inr ⟨g, 0, #[], rfl, hb, h, Nat.le_refl _, Nat.zero_le _, rfl, rfl⟩⟩

/-- Block g holds the numbers L from its head on. -/
def BI (w : World) (g : Nat) (L : List Int) : Prop := ∃ cur, w.heap[g]? = some (.cells cur 3 (0, 0)) ∧ ∀ i (h : i < L.length), cur[i]? = some (.int .i64 L[i])
theorem BI.of_own {w : World} {base : Nat} {v : Value} {L : List Int} (h : OwnI w base v L) (hne : L ≠ []) : ∃ g cap, v = .slice (some ⟨g, 0, none⟩) L.length cap ∧ base ≤ g ∧ BI w g L := by
  rcases h.2 with ⟨_, h0⟩ | ⟨g, cap, cur, rfl, hg, hh, h1, h2, h3, h4⟩
  · exact absurd (List.length_eq_zero_iff.1 h0) hne
  · refine ⟨g, cap, rfl, hg, cur, hh, fun i hi => ?_⟩
    have e : (cur.toList.take (L.length * 1))[i]? = (L.map (Value.int .i64))[i]? := by rw [h4]
    rw [List.getElem?_take, if_pos (by omega)] at e
    simpa [hi] using e
theorem BI.at {w : World} {g : Nat} {L : List Int} (h : BI w g L) {i : Nat} (hi : i < L.length) : w.cell? ⟨g, i, none⟩ = some (.int .i64 L[i]) := by
  obtain ⟨cur, hh, hc⟩ := h
  rw [cell_of_row _ _ _ _ _ _ hh]
  exact hc i hi
theorem BI.frozen {w : World} {g : Nat} {L : List Int} (h : BI w g L) (o : Nat) : w.frozen? ⟨g, o, none⟩ = false := by
  obtain ⟨cur, hh, _⟩ := h
  simp [World.frozen?, hh]
theorem BI.lt {w : World} {g : Nat} {L : List Int} (h : BI w g L) : g < w.heap.size := by
  obtain ⟨cur, hh, _⟩ := h
  exact lt_of_heap hh
theorem BI.rd {w : World} {g : Nat} {L : List Int} (h : BI w g L) : RdI w (some ⟨g, 0, none⟩) L := fun i hi => ⟨g, 0, rfl, h.lt, by rw [Nat.zero_add]; exact h.at hi⟩
theorem BI.keep {w w' : World} {g : Nat} {L : List Int} (h : BI w g L) (e : w'.heap[g]? = w.heap[g]?) : BI w' g L := by
  obtain ⟨cur, hh, hc⟩ := h
  exact ⟨cur, by rw [e]; exact hh, hc⟩
theorem BI.below {w w' : World} {g : Nat} {L : List Int} (h : BI w g L) (hb : Below w.heap.size w w') : BI w' g L := h.keep (hb.block g h.lt)
theorem BI.set {w : World} {g : Nat} {L : List Int} (h : BI w g L) {i : Nat} (hi : i < L.length) (v : Int) : BI (w.setCell ⟨g, i, none⟩ (.int .i64 v)) g (L.set i v) := by
  obtain ⟨cur, hh, hc⟩ := h
  have hsz : i < cur.size := (Array.getElem?_eq_some_iff.1 (hc i hi)).1
  refine ⟨_, heap_setCell_same _ _ _ _ _ _ hh, fun k hk => ?_⟩
  have hk' : k < L.length := by simpa using hk
  rw [Array.getElem?_setIfInBounds, List.getElem_set]
  by_cases e : i = k
  · subst e
    simp [hsz]
  · rw [if_neg e, if_neg e]
    exact hc k hk'
end Go.Proofs.Ytnjbahiaelehkaa
