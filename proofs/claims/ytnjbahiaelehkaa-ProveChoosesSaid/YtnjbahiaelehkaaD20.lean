/- Span once more, with bounds of its ends. append of numbers, and a block of numbers that is written. Turned and shifted lines, plainly: the same answers. keep under a change of the lines. The fault and the span of turned lines. The greatest of shifted lines. Spans of turned and shifted lines, and the numbers that fit them. -/
import Derived.Test.YtnjbahiaelehkaaA15
import Derived.Test.YtnjbahiaelehkaaC6
import Derived.Test.YtnjbahiaelehkaaA18
import Derived.Test.YtnjbahiaelehkaaD15
import Derived.Test.YtnjbahiaelehkaaD2
namespace Go.Proofs.Ytnjbahiaelehkaa
open Go.RowKit



set_option maxRecDepth 100000 in
set_option maxHeartbeats 1000000 in
theorem span_lim (n : Int) (l : List AM) (k : Int) (a : Option Addr) (cap : Nat) (w : World) (hl : Rd w a l) (hlen : l.length ≤ 1000000) :
    Calls Try.prog 20 #[.int .i64 n, .slice a l.length cap, .int .i64 k] w (fun e w' => Ret3 (.int .i64 (spanLo n l k)) (.int .i64 (spanHi n l k)) (.int .i64 (spanE n l k)) w e w' ∧ (spanE n l k = 0 → (-1152921504606846976 ≤ spanLo n l k ∧ spanLo n l k ≤ 1152921504606846976) ∧ (-1152921504606846976 ≤ spanHi n l k ∧ spanHi n l k ≤ 1152921504606846976))) := by
  have HL := hid hl; clear hl
  by_cases h0 : indexN n l k = 0
  · have hc0 : checkN n l = 0 := by
      unfold indexN at h0; split at h0
      · assumption
      · exact h0
    have hk0 : inB k 0 (n - 1) = true := by
      unfold indexN at h0; rw [if_pos hc0] at h0; split at h0
      · assumption
      · cases h0
    obtain ⟨⟨hn1, hn2⟩, _, hrs⟩ := checkN_in hc0
    obtain ⟨N, rfl⟩ : ∃ N : Nat, n = (N : Int) := ⟨n.toNat, by omega⟩
    have hN : N ≤ 12 := by omega
    have hkr : 0 ≤ k ∧ k ≤ N - 1 := by simpa [inB] using hk0
    obtain ⟨hk1, hk2⟩ := hkr
    have HOK := hid (rights_ok hrs)
    have H0 := hid h0
    clear h0 hc0 hk0 hrs
    go_enter Try.func20, Try.ntmps20
    go_upto_region 4 with (go_at_call 62; refine (index_any _ l k a cap _ HL.out (by omega)).mono ?_; rw [H0.out]; rintro e w1 ⟨rfl, hb1⟩)
    have HB1 := hid hb1; clear hb1
    go_cut [10] (fun s9 wx => ∃ c : Nat, s9 = .pointer (some ⟨c, 0, none⟩) ∧ ShutAt l N 1000000 c wx ∧ Below w1.heap.size w1 wx)
    case first =>
      go_wp2_with (first | (go_at_call 57; refine (shut_any N hN _ l a cap 1000000 HOK.out hM6 hF6 (HL.out.below HB1.out) hlen).mono ?_; rintro e w2 ⟨hb2, C, M, no, tp, ty, D, T, rfl, cv, hm, hbd, hor⟩; have HX := hid (And.intro hb2 (And.intro cv (And.intro hm (And.intro hbd hor)))); clear hb2 cv hm hbd hor) | (refine wpList_store_row rfl 105 (.tmp 10) (.tmp 22) rfl _ C rfl rfl 105 _ (heapn _ _ _ rfl) (by rw [HX.out.2.1.size]; exact size105) (by rw [HX.out.2.1.size]; rfl) HX.out.2.1.one ?_))
      go_meet
      obtain ⟨hb2, cv, hm, hbd, hor⟩ := HX.out
      exact ⟨_, rfl, ShutAt.new cv hm hbd hor, hb2.step newRow_below⟩
    case rest =>
      obtain ⟨c, rfl, ⟨C, M, no, tp, ty, D, T, hrow, cv, hm, hbd, hor⟩, hb3⟩ := hcut
      have hcs : CS wc c N M no tp ty := ⟨C, hrow, cv⟩
      have hno := hcs.getNo
      have HB3 := hid hb3; clear hb3
      rcases hor with ⟨d, X, rfl, hd, hno'⟩ | ⟨rfl, hfin, htight, htops⟩
      · have hp := hno'.noposs HOK.out
        have HP := hid hp; clear hp
        clear hcs hrow cv hm hbd hd hno'
        go_wp2
        go_ret3
        exact ⟨⟨by simp [spanLo, spanHi, spanE, H0.out, HP.out], HB1.out.step HB3.out⟩, fun h => by simp [spanE, H0.out, HP.out] at h⟩
      · have HFINE := hid (And.intro hfin (And.intro htight htops)); clear hfin htight htops
        have hi1 : nd k (-1) < 24 := nd_lt24 hN hk1 (by omega)
        have hi2 : nd k 1 < 24 := nd_lt24 hN hk1 (by omega)
        have hi1' : ((nd k (-1) : Nat) : Int) < 24 := by omega
        have hi2' : ((nd k 1 : Nat) : Int) < 24 := by omega
        have q1 := hcs.most hi1
        have q2 := hcs.most hi2
        have r1 := of_res hM6 hN hF6 HFINE.out (span_ok hk1 (by omega) (.inr rfl) : Ok N 1000000 ⟨k, -1, 0, 0, 0⟩)
        have r2 := of_res hM6 hN hF6 HFINE.out (span_ok hk1 (by omega) (.inl rfl) : Ok N 1000000 ⟨k, 1, 0, 0, 0⟩)
        simp only [ofM, if_true] at r1 r2
        obtain ⟨bx1, bx2⟩ := hbd _ hi1
        obtain ⟨by1, by2⟩ := hbd _ hi2
        have hp := HFINE.out.1.poss HFINE.out.2.1
        have HP := hid hp; clear hp
        generalize tp (nd k (-1)) = x at *
        generalize tp (nd k 1) = y at *
        have R1 := hid r1; clear r1
        have R2 := hid r2; clear r2
        clear hcs hrow cv hm hbd
        unfold FF at bx1 bx2 by1 by2
        go_upto_region 7 with fail
        go_region_held3 (fun w' => w'.cell? ⟨c, 2 + nd k (-1) * 2, none⟩ = some (.int .i64 x) ∧ w'.cell? ⟨c, 2 + nd k 1 * 2, none⟩ = some (.int .i64 y)) (go_keep)
          ((go_at_call 63; refine (end_any k _ hk1 (by omega) _).mono ?_; rintro e w' ⟨rfl, rfl⟩))
        all_goals
          have hbl := HB1.out.step (HB3.out.step (bdrew _))
          by_cases hx : x = FF
          · have tx : (x == 1152921504606846976) = true := by simpa using hx
            have HX := hid hx; clear hx
            go_wp2
            go_ret3
            rcases R1.out with ⟨_, e1⟩ | ⟨e1, _⟩
            · exact ⟨⟨by simp [spanLo, spanHi, spanE, spanM, H0.out, HP.out, e1], hbl⟩, fun h => by simp [spanE, spanM, H0.out, HP.out, e1] at h⟩
            · exact absurd HX.out e1
          have tx : (x == 1152921504606846976) = false := by simpa using hx
          have HX := hid hx; clear hx
          by_cases hy : y = FF
          · have ty' : (y == 1152921504606846976) = true := by simpa using hy
            have HY := hid hy; clear hy
            go_wp2
            go_ret3
            rcases R2.out with ⟨_, e2⟩ | ⟨e2, _⟩
            · rcases R1.out with ⟨_, e1⟩ | ⟨_, e1⟩
              · exact ⟨⟨by simp [spanLo, spanHi, spanE, spanM, H0.out, HP.out, e1], hbl⟩, fun h => by simp [spanE, spanM, H0.out, HP.out, e1] at h⟩
              · exact ⟨⟨by simp [spanLo, spanHi, spanE, spanM, H0.out, HP.out, e1, e2], hbl⟩, fun h => by simp [spanE, spanM, H0.out, HP.out, e1, e2] at h⟩
            · exact absurd HY.out e2
          have ty' : (y == 1152921504606846976) = false := by simpa using hy
          have HY := hid hy; clear hy
          go_wp2
          go_ret3
          rcases R1.out with ⟨e1, _⟩ | ⟨_, e1⟩
          · exact absurd e1 HX.out
          rcases R2.out with ⟨e2, _⟩ | ⟨_, e2⟩
          · exact absurd e2 HY.out
          exact ⟨⟨by simp [spanLo, spanHi, spanE, spanM, H0.out, HP.out, e1, e2], hbl⟩, fun _ => by
            have q1 : spanLo (N : Int) l k = -x := by simp [spanLo, spanM, H0.out, HP.out, e1, e2]
            have q2 : spanHi (N : Int) l k = y := by simp [spanHi, spanM, H0.out, HP.out, e1, e2]
            rw [q1, q2]
            omega⟩
  · have hne : (indexN n l k == 0) = false := by simpa using h0
    go_enter Try.func20, Try.ntmps20
    go_wp2_with (go_at_call 62; refine (index_any _ l k a cap _ HL.out (by omega)).mono ?_; rintro e w1 ⟨rfl, hb1⟩)
    go_ret3
    exact ⟨⟨by simp [spanLo, spanHi, spanE, h0], hb1⟩, fun h => by simp [spanE, h0] at h⟩


theorem RdI.cells {w : World} {b off : Nat} {l : List Int} (h : RdI w (some ⟨b, off, none⟩) l) : ∀ j u, (l.map (Value.int .i64))[j]? = some u → w.cell? ((⟨b, off, none⟩ : Addr).add j) = some u := by
  intro j u hu
  have hj : j < l.length := by
    have := (List.getElem?_eq_some_iff.1 hu).1
    rwa [List.length_map] at this
  obtain ⟨b', off', e, hlt, h0⟩ := h j hj
  simp only [Option.some.injEq, Addr.mk.injEq, and_true] at e
  obtain ⟨rfl, rfl⟩ := e
  have ea : ((⟨b, off, none⟩ : Addr).add j) = ⟨b, off + j, none⟩ := by
    unfold Addr.add
    by_cases h0 : j = 0
    · subst h0; simp
    · simp [h0]
  rw [ea, h0]
  simpa [hj] using hu
theorem run_append_ints (w : World) (base : Nat) (ty : TypeId) (v : Value) (l0 l : List Int) (hown : OwnI w base v l0) (a : Option Addr) (c : Nat) (hl : RdI w a l) (hs : l0.length + l.length ≤ 1000000) (hb : base ≤ w.heap.size) :
    ∃ v' w', (Builtin.append_ #[46, 46] ty #[v, .slice a l.length c]).run Try.prog w = .ok v' w' ∧ OwnI w' base v' (l0 ++ l) ∧ w.grownBy w' v.ownBlock ∧ (v'.ownBlock = v.ownBlock ∨ v'.ownBlock = some w.heap.size) := by
  obtain ⟨i0, hi, hz0, hz1, hz2⟩ := info_parts info3
  cases a with
  | none =>
    have hl0 : l = [] := by
      cases l with
      | nil => rfl
      | cons x l =>
        obtain ⟨b, off, e, _⟩ := hl 0 (Nat.succ_pos _)
        cases e
    subst hl0
    refine ⟨v, w, ?_, by rw [List.append_nil]; exact hown, ⟨rfl, rfl, rfl, Nat.le_refl _, fun _ _ _ => rfl⟩, .inl rfl⟩
    rcases hown.2 with ⟨rfl, h0⟩ | ⟨g, cap, cur, rfl, _, _, hnc, _⟩
    · simp [Builtin.append_, run_underlying Try.underlying46, sizeOf, typeInfo, hi, Builtin.lenOf, Builtin.firstCells]
    · simp [Builtin.append_, run_underlying Try.underlying46, sizeOf, typeInfo, hi, Builtin.lenOf, Builtin.firstCells, hnc, storeCells]
  | some ad =>
    have hcells : ∀ j u, (l.map (Value.int .i64))[j]? = some u → w.cell? (ad.add j) = some u := by
      cases l with
      | nil => intro j u hu; simp at hu
      | cons x l =>
        obtain ⟨b, off, e, _⟩ := hl 0 (Nat.succ_pos _)
        injection e with e
        subst e
        exact hl.cells
    have hone : ∀ u ∈ l.map (Value.int .i64), u.oneCell' = true := by
      intro u hu
      obtain ⟨x, _, rfl⟩ := List.mem_map.1 hu
      rfl
    obtain ⟨v', w', h1, h2, h3, _, h5⟩ := run_append_own_at (P := Try.prog) w base 46 ty 3 i0 _ 1 8 Try.underlying46 hi hz0 hz1 hz2 rfl (by decide) v l0.length (l0.map (Value.int .i64)) hown ad l.length c (l.map (Value.int .i64)) (by simp) hcells hone (by unfold maxLen; omega) (by omega) hb
    refine ⟨v', w', h1, ?_, h3, h5⟩
    unfold OwnI
    rw [List.length_append, List.map_append]
    exact h2
theorem wpList_append_ints {ops : Array Oper} {rest : List Oper} {o : Oper} {a : Act} {Q : Exit → Act → World → Prop} (w : World) (hgd : o.guard = none) (s x : Operand)
    (ho : o.op = .call { callee := .builtin .append, args := #[s, x], argTypes := #[46, 46] }) (base : Nat) (v : Value) (l0 l : List Int) (hsv : a.eval s = v) (hown : OwnI w base v l0) (A : Option Addr) (c : Nat) (hx : a.eval x = .slice A l.length c) (hl : RdI w A l) (hs : l0.length + l.length ≤ 1000000) (hb : base ≤ w.heap.size)
    (h : ∀ v' w', OwnI w' base v' (l0 ++ l) → w.grownBy w' v.ownBlock → (v'.ownBlock = v.ownBlock ∨ v'.ownBlock = some w.heap.size) → wpList Try.prog ops Q rest (a.put o.dst v') w') : wpList Try.prog ops Q (o :: rest) a w := by
  refine wpList_plain hgd fun K hK => ?_
  obtain ⟨v', w', hrun, h2, h3, h4⟩ := run_append_ints w base o.type v l0 l hown A c hl hs hb
  unfold Oper.wp execOp
  simp only [ho, resolve, invoke, builtin, Sem.run_bind, Sem.run_pure, Result.andThen_ok, List.map_toArray, List.map_cons, List.map_nil, hsv, hx, hrun]
  exact hK _ _ (h v' w' h2 h3 h4)
theorem OwnI.none {w : World} {base g : Nat} (hb : base ≤ g) (h : w.heap[g]? = some (.cells #[] 3 (0, 0))) : OwnI w base (.slice (some ⟨g, 0, none⟩) 0 0) [] := ⟨rfl, .inr ⟨g, 0, #[], rfl, hb, h, Nat.le_refl _, Nat.zero_le _, rfl, rfl⟩⟩

/-- Block g holds the numbers L from its head on. -/
def BI (w : World) (g : Nat) (L : List Int) : Prop := ∃ cur, w.heap[g]? = some (.cells cur 3 (0, 0)) ∧ ∀ i (h : i < L.length), cur[i]? = some (.int .i64 L[i])
theorem BI.of_own {w : World} {base : Nat} {v : Value} {L : List Int} (h : OwnI w base v L) (hne : L ≠ []) : ∃ g cap, v = .slice (some ⟨g, 0, none⟩) L.length cap ∧ base ≤ g ∧ BI w g L := by
  rcases h.2 with ⟨_, h0⟩ | ⟨g, cap, cur, rfl, hg, hh, h1, h2, h3, h4⟩
  · exact absurd (List.length_eq_zero_iff.1 h0) hne
  · refine ⟨g, cap, rfl, hg, cur, hh, fun i hi => ?_⟩
    have e : (cur.toList.take (L.length * 1))[i]? = (L.map (Value.int .i64))[i]? := by rw [h4]
    rw [List.getElem?_take, if_pos (by omega)] at e
    simpa [hi] using e
theorem BI.at {w : World} {g : Nat} {L : List Int} (h : BI w g L) {i : Nat} (hi : i < L.length) : w.cell? ⟨g, i, none⟩ = some (.int .i64 L[i]) := by
  obtain ⟨cur, hh, hc⟩ := h
  rw [cell_of_row _ _ _ _ _ _ hh]
  exact hc i hi
theorem BI.frozen {w : World} {g : Nat} {L : List Int} (h : BI w g L) (o : Nat) : w.frozen? ⟨g, o, none⟩ = false := by
  obtain ⟨cur, hh, _⟩ := h
  simp [World.frozen?, hh]
theorem BI.lt {w : World} {g : Nat} {L : List Int} (h : BI w g L) : g < w.heap.size := by
  obtain ⟨cur, hh, _⟩ := h
  exact lt_of_heap hh
theorem BI.rd {w : World} {g : Nat} {L : List Int} (h : BI w g L) : RdI w (some ⟨g, 0, none⟩) L := fun i hi => ⟨g, 0, rfl, h.lt, by rw [Nat.zero_add]; exact h.at hi⟩
theorem BI.keep {w w' : World} {g : Nat} {L : List Int} (h : BI w g L) (e : w'.heap[g]? = w.heap[g]?) : BI w' g L := by
  obtain ⟨cur, hh, hc⟩ := h
  exact ⟨cur, by rw [e]; exact hh, hc⟩
theorem BI.below {w w' : World} {g : Nat} {L : List Int} (h : BI w g L) (hb : Below w.heap.size w w') : BI w' g L := h.keep (hb.block g h.lt)
theorem BI.set {w : World} {g : Nat} {L : List Int} (h : BI w g L) {i : Nat} (hi : i < L.length) (v : Int) : BI (w.setCell ⟨g, i, none⟩ (.int .i64 v)) g (L.set i v) := by
  obtain ⟨cur, hh, hc⟩ := h
  have hsz : i < cur.size := (Array.getElem?_eq_some_iff.1 (hc i hi)).1
  refine ⟨_, heap_setCell_same _ _ _ _ _ _ hh, fun k hk => ?_⟩
  have hk' : k < L.length := by simpa using hk
  rw [Array.getElem?_setIfInBounds, List.getElem_set]
  by_cases e : i = k
  · subst e
    simp [hsz]
  · rw [if_neg e, if_neg e]
    exact hc k hk'



def turnX (k : Int) (x : Nat → Int) (i : Nat) : Int := if (i : Int) = k then -(x i) else x i
theorem turn_lhs {k : Int} {a : AM} (hA : 0 ≤ a.A) (hB : 0 ≤ a.B) (x : Nat → Int) : lhs (turnX k x) (turnA k a) = lhs x a := by
  obtain ⟨A, P, B, Q, M⟩ := a
  simp only [lhs, turnA, turnX] at *
  rw [Int.toNat_of_nonneg hA, Int.toNat_of_nonneg hB]
  by_cases h1 : A = k <;> by_cases h2 : B = k <;> simp [h1, h2, Int.neg_mul_neg]
theorem turn_turn (k : Int) (a : AM) : turnA k (turnA k a) = a := by
  obtain ⟨A, P, B, Q, M⟩ := a
  simp only [turnA]
  by_cases h1 : A = k <;> by_cases h2 : B = k <;> simp [h1, h2]
theorem turn_sat {k : Int} {l : List AM} (h : ∀ a, a ∈ l → 0 ≤ a.A ∧ 0 ≤ a.B) {x : Nat → Int} (hx : Sat l x) : Sat (l.map (turnA k)) (turnX k x) := by
  intro b hb
  obtain ⟨a, ha, rfl⟩ := List.mem_map.1 hb
  rw [turn_lhs (h a ha).1 (h a ha).2]
  exact hx a ha
theorem turn_poss {k : Int} {l : List AM} (h : ∀ a, a ∈ l → 0 ≤ a.A ∧ 0 ≤ a.B) : possB (l.map (turnA k)) = possB l := by
  rw [Bool.eq_iff_iff, possB_iff, possB_iff]
  constructor
  · rintro ⟨x, hx⟩
    have := turn_sat (k := k) (l := l.map (turnA k)) (fun a ha => by
      obtain ⟨b, hb, rfl⟩ := List.mem_map.1 ha
      exact h b hb) hx
    rw [List.map_map, show (turnA k ∘ turnA k) = id from funext fun a => turn_turn k a, List.map_id] at this
    exact ⟨_, this⟩
  · rintro ⟨x, hx⟩
    exact ⟨_, turn_sat h hx⟩

def shiftX (k y : Int) (x : Nat → Int) (i : Nat) : Int := if (i : Int) = k then x i + y else x i
theorem shift_lhs {k y : Int} {a : AM} (hA : 0 ≤ a.A) (hB : 0 ≤ a.B) (x : Nat → Int) : lhs (shiftX k y x) (shiftA k y a) = lhs x a + ((shiftA k y a).M - a.M) := by
  obtain ⟨A, P, B, Q, M⟩ := a
  simp only [lhs, shiftA, shiftX] at *
  rw [Int.toNat_of_nonneg hA, Int.toNat_of_nonneg hB]
  by_cases h1 : A = k <;> by_cases h2 : B = k <;> simp only [h1, h2, if_true, if_false, Int.mul_add] <;> omega
theorem shift_back (k y : Int) (a : AM) : shiftA k (-y) (shiftA k y a) = a := by
  obtain ⟨A, P, B, Q, M⟩ := a
  simp only [shiftA, AM.mk.injEq, true_and]
  by_cases h1 : A = k <;> by_cases h2 : B = k <;> simp only [h1, h2, if_true, if_false, Int.mul_neg] <;> omega
theorem shift_sat {k y : Int} {l : List AM} (h : ∀ a, a ∈ l → 0 ≤ a.A ∧ 0 ≤ a.B) {x : Nat → Int} (hx : Sat l x) : Sat (l.map (shiftA k y)) (shiftX k y x) := by
  intro b hb
  obtain ⟨a, ha, rfl⟩ := List.mem_map.1 hb
  rw [shift_lhs (h a ha).1 (h a ha).2]
  have := hx a ha
  omega
theorem shift_poss {k y : Int} {l : List AM} (h : ∀ a, a ∈ l → 0 ≤ a.A ∧ 0 ≤ a.B) : possB (l.map (shiftA k y)) = possB l := by
  rw [Bool.eq_iff_iff, possB_iff, possB_iff]
  constructor
  · rintro ⟨x, hx⟩
    have := shift_sat (k := k) (y := -y) (l := l.map (shiftA k y)) (fun a ha => by
      obtain ⟨b, hb, rfl⟩ := List.mem_map.1 ha
      exact h b hb) hx
    rw [List.map_map, show (shiftA k (-y) ∘ shiftA k y) = id from funext fun a => shift_back k y a, List.map_id] at this
    exact ⟨_, this⟩
  · rintro ⟨x, hx⟩
    exact ⟨_, shift_sat h hx⟩


theorem getD_map {f : AM → AM} {l : List AM} {i : Nat} (h : i < l.length) : (l.map f).getD i am0 = f (l.getD i am0) := by
  simp [List.getD, h]
theorem pick_map {f : AM → AM} {l : List AM} {ks : List Int} (h : ∀ k, k ∈ ks → k.toNat < l.length) : pick (l.map f) ks = (pick l ks).map f := by
  unfold pick
  rw [List.map_map]
  apply List.map_congr_left
  intro k hk
  exact getD_map (h k hk)
theorem keepFrom_sub (can : AM → List AM → Bool) (l : List AM) (n : Nat) : ∀ k, k ∈ keepFrom can l n → k.toNat < l.length := by
  induction n with
  | zero =>
    intro k hk
    have := mem_upto.1 (show k ∈ upto l.length from hk)
    omega
  | succ n ih =>
    intro k hk
    rw [keepFrom_succ] at hk
    unfold keepStep at hk
    split at hk
    · exact ih k (drop_sub hk)
    · exact ih k hk
theorem keepFrom_map {can : AM → List AM → Bool} {f : AM → AM} {l : List AM} (h : ∀ x r, x ∈ l → (∀ y, y ∈ r → y ∈ l) → can (f x) (r.map f) = can x r) {n : Nat} (hn : n ≤ l.length) : keepFrom can (l.map f) n = keepFrom can l n := by
  induction n with
  | zero => simp [keepFrom]
  | succ n ih =>
    rw [keepFrom_succ, keepFrom_succ, ih (by omega)]
    have hs : ∀ k, k ∈ drop (keepFrom can l n) n → k.toNat < l.length := fun k hk => keepFrom_sub can l n k (drop_sub hk)
    unfold keepStep
    rw [pick_map hs, getD_map (by omega), h]
    · have e : l.getD n am0 = l[n] := by simp [List.getD, show n < l.length by omega]
      rw [e]
      exact List.getElem_mem _
    · intro y hy
      unfold pick at hy
      obtain ⟨k, hk, rfl⟩ := List.mem_map.1 hy
      have e : l.getD k.toNat am0 = l[k.toNat]'(hs k hk) := by simp [List.getD, hs k hk]
      rw [e]
      exact List.getElem_mem _
theorem keep_map {can : AM → List AM → Bool} {f : AM → AM} {l : List AM} (h : ∀ x r, x ∈ l → (∀ y, y ∈ r → y ∈ l) → can (f x) (r.map f) = can x r) : keep can (l.map f) = keep can l := by
  unfold keep
  rw [List.length_map]
  exact keepFrom_map h (Nat.le_refl _)

theorem turn_ent {k : Int} {r : List AM} {x : AM} (h : ∀ a, a ∈ r → 0 ≤ a.A ∧ 0 ≤ a.B) (hx : 0 ≤ x.A ∧ 0 ≤ x.B) : entB (r.map (turnA k)) (turnA k x) = entB r x := by
  rw [Bool.eq_iff_iff, entB_iff, entB_iff]
  constructor
  · intro H X hX
    have := H _ (turn_sat (k := k) h hX)
    rw [turn_lhs hx.1 hx.2] at this
    exact this
  · intro H X hX
    have hs := turn_sat (k := k) (l := r.map (turnA k)) (fun a ha => by
      obtain ⟨b, hb, rfl⟩ := List.mem_map.1 ha
      exact h b hb) hX
    rw [List.map_map, show (turnA k ∘ turnA k) = id from funext fun a => turn_turn k a, List.map_id] at hs
    have := H _ hs
    have e := turn_lhs (k := k) (a := turnA k x) hx.1 hx.2 X
    rw [turn_turn] at e
    rw [e] at this
    exact this
theorem shift_ent {k y : Int} {r : List AM} {x : AM} (h : ∀ a, a ∈ r → 0 ≤ a.A ∧ 0 ≤ a.B) (hx : 0 ≤ x.A ∧ 0 ≤ x.B) : entB (r.map (shiftA k y)) (shiftA k y x) = entB r x := by
  rw [Bool.eq_iff_iff, entB_iff, entB_iff]
  constructor
  · intro H X hX
    have := H _ (shift_sat (k := k) (y := y) h hX)
    rw [shift_lhs hx.1 hx.2] at this
    omega
  · intro H X hX
    have hs := shift_sat (k := k) (y := -y) (l := r.map (shiftA k y)) (fun a ha => by
      obtain ⟨b, hb, rfl⟩ := List.mem_map.1 ha
      exact h b hb) hX
    rw [List.map_map, show (shiftA k (-y) ∘ shiftA k y) = id from funext fun a => shift_back k y a, List.map_id] at hs
    have := H _ hs
    have e := shift_lhs (k := k) (y := -y) (a := shiftA k y x) hx.1 hx.2 X
    rw [shift_back] at e
    omega
theorem turn_keepE {k : Int} {l : List AM} (h : ∀ a, a ∈ l → 0 ≤ a.A ∧ 0 ≤ a.B) : keep canE (l.map (turnA k)) = keep canE l := keep_map fun _ _ hx hr => turn_ent (fun a ha => h a (hr a ha)) (h _ hx)
theorem turn_keepS {k : Int} {l : List AM} (h : ∀ a, a ∈ l → 0 ≤ a.A ∧ 0 ≤ a.B) : keep canS (l.map (turnA k)) = keep canS l := keep_map fun _ r _ hr => by
  unfold canS
  rw [turn_poss fun a ha => h a (hr a ha)]
theorem shift_keepE {k y : Int} {l : List AM} (h : ∀ a, a ∈ l → 0 ≤ a.A ∧ 0 ≤ a.B) : keep canE (l.map (shiftA k y)) = keep canE l := keep_map fun _ _ hx hr => shift_ent (fun a ha => h a (hr a ha)) (h _ hx)
theorem shift_keepS {k y : Int} {l : List AM} (h : ∀ a, a ∈ l → 0 ≤ a.A ∧ 0 ≤ a.B) : keep canS (l.map (shiftA k y)) = keep canS l := keep_map fun _ r _ hr => by
  unfold canS
  rw [shift_poss fun a ha => h a (hr a ha)]


theorem turn_right {n k : Int} {a : AM} (h : rightB n a = true) : rightB n (turnA k a) = true := by
  obtain ⟨A, P, B, Q, M⟩ := a
  simp only [rightB, turnA, decide_eq_true_eq] at *
  by_cases h1 : A = k <;> by_cases h2 : B = k <;> by_cases h3 : Q = 0 <;> simp_all <;> omega
theorem turn_rights {n k : Int} {l : List AM} (h : rightsB n l = true) : rightsB n (l.map (turnA k)) = true := by
  unfold rightsB at *
  rw [List.all_eq_true] at *
  intro b hb
  obtain ⟨a, ha, rfl⟩ := List.mem_map.1 hb
  exact turn_right (h a ha)
theorem turn_ismax {k : Int} {l : List AM} {x : AM} (h : ∀ a, a ∈ l → 0 ≤ a.A ∧ 0 ≤ a.B) (hx : 0 ≤ x.A ∧ 0 ≤ x.B) {m : Int} (H : IsMax l x m) : IsMax (l.map (turnA k)) (turnA k x) m := by
  obtain ⟨⟨X, hX, hm⟩, hle⟩ := H
  refine ⟨⟨_, turn_sat h hX, by rw [turn_lhs hx.1 hx.2]; exact hm⟩, fun Y hY => ?_⟩
  have hs := turn_sat (k := k) (l := l.map (turnA k)) (fun a ha => by
    obtain ⟨b, hb, rfl⟩ := List.mem_map.1 ha
    exact h b hb) hY
  rw [List.map_map, show (turnA k ∘ turnA k) = id from funext fun a => turn_turn k a, List.map_id] at hs
  have := hle _ hs
  have e := turn_lhs (k := k) (a := turnA k x) hx.1 hx.2 Y
  rw [turn_turn] at e
  rw [e] at this
  exact this
theorem turn_max {k : Int} {l : List AM} {x : AM} (h : ∀ a, a ∈ l → 0 ≤ a.A ∧ 0 ≤ a.B) (hx : 0 ≤ x.A ∧ 0 ≤ x.B) : maxO (l.map (turnA k)) (turnA k x) = maxO l x := by
  have e : (fun m => IsMax (l.map (turnA k)) (turnA k x) m) = fun m => IsMax l x m := by
    funext m
    apply propext
    constructor
    · intro H
      have := turn_ismax (k := k) (l := l.map (turnA k)) (x := turnA k x) (fun a ha => by
        obtain ⟨b, hb, rfl⟩ := List.mem_map.1 ha
        exact h b hb) hx H
      rw [List.map_map, show (turnA k ∘ turnA k) = id from funext fun a => turn_turn k a, List.map_id, turn_turn] at this
      exact this
    · exact turn_ismax h hx
  have e' : IsMax (l.map (turnA k)) (turnA k x) = IsMax l x := e
  unfold maxO
  rw [e']


theorem shift_ismax {k y : Int} {l : List AM} {x : AM} (h : ∀ a, a ∈ l → 0 ≤ a.A ∧ 0 ≤ a.B) (hx : 0 ≤ x.A ∧ 0 ≤ x.B) {m : Int} (H : IsMax l x m) : IsMax (l.map (shiftA k y)) (shiftA k y x) (m + ((shiftA k y x).M - x.M)) := by
  obtain ⟨⟨X, hX, hm⟩, hle⟩ := H
  refine ⟨⟨_, shift_sat h hX, by rw [shift_lhs hx.1 hx.2, hm]⟩, fun Y hY => ?_⟩
  have hs := shift_sat (k := k) (y := -y) (l := l.map (shiftA k y)) (fun a ha => by
    obtain ⟨b, hb, rfl⟩ := List.mem_map.1 ha
    exact h b hb) hY
  rw [List.map_map, show (shiftA k (-y) ∘ shiftA k y) = id from funext fun a => shift_back k y a, List.map_id] at hs
  have := hle _ hs
  have e := shift_lhs (k := k) (y := -y) (a := shiftA k y x) hx.1 hx.2 Y
  rw [shift_back] at e
  omega


theorem check_of {n : Int} {l r : List AM} (h : checkN n l = 0) (hl : r.length = l.length) (hr : rightsB n r = true) : checkN n r = 0 := by
  obtain ⟨hn, h40, _⟩ := checkN_in h
  unfold checkN
  rw [if_pos (by simp [inB]; omega), if_neg (by omega), if_pos hr]
theorem rights_nonneg {n : Int} {l : List AM} (h : rightsB n l = true) : ∀ a, a ∈ l → 0 ≤ a.A ∧ 0 ≤ a.B := by
  intro a ha
  unfold rightsB at h
  have := List.all_eq_true.1 h a ha
  simp only [rightB, decide_eq_true_eq] at this
  obtain ⟨h1, _, _, _, h2⟩ := this
  refine ⟨h1.1, ?_⟩
  by_cases hq : a.Q = 0
  · rw [if_pos hq] at h2
    omega
  · rw [if_neg hq] at h2
    omega
theorem turn_check {n k : Int} {l : List AM} (h : checkN n l = 0) : checkN n (l.map (turnA k)) = 0 := check_of h (List.length_map ..) (turn_rights (checkN_in h).2.2)

theorem turn_unit (k s : Int) : turnA k ⟨k, s, 0, 0, 0⟩ = ⟨k, -s, 0, 0, 0⟩ := by
  simp [turnA]
theorem turn_spanM {k s : Int} {l : List AM} (h : ∀ a, a ∈ l → 0 ≤ a.A ∧ 0 ≤ a.B) (hk : 0 ≤ k) : spanM (l.map (turnA k)) k s = spanM l k (-s) := by
  unfold spanM
  have e := turn_max (k := k) (l := l) (x := ⟨k, -s, 0, 0, 0⟩) h ⟨hk, Int.le_refl _⟩
  rw [turn_unit, Int.neg_neg] at e
  exact e
theorem max_most (l : List AM) (k s M : Int) : maxO l ⟨k, s, 0, 0, M⟩ = maxO l ⟨k, s, 0, 0, 0⟩ := by
  have e : IsMax l ⟨k, s, 0, 0, M⟩ = IsMax l ⟨k, s, 0, 0, 0⟩ := rfl
  unfold maxO
  rw [e]
theorem shift_max {k y : Int} {l : List AM} {x : AM} (h : ∀ a, a ∈ l → 0 ≤ a.A ∧ 0 ≤ a.B) (hx : 0 ≤ x.A ∧ 0 ≤ x.B) : maxO (l.map (shiftA k y)) (shiftA k y x) = (maxO l x).map fun m => m + ((shiftA k y x).M - x.M) := by
  cases e : maxO l x with
  | some m => exact maxO_some.2 (shift_ismax h hx (maxO_some.1 e))
  | none =>
    cases e2 : maxO (l.map (shiftA k y)) (shiftA k y x) with
    | none => rfl
    | some m =>
      have H := shift_ismax (k := k) (y := -y) (l := l.map (shiftA k y)) (x := shiftA k y x) (fun a ha => by
        obtain ⟨b, hb, rfl⟩ := List.mem_map.1 ha
        exact h b hb) hx (maxO_some.1 e2)
      rw [List.map_map, show (shiftA k (-y) ∘ shiftA k y) = id from funext fun a => shift_back k y a, List.map_id, shift_back] at H
      rw [maxO_some.2 H] at e
      cases e
theorem shift_spanM {k y s : Int} {l : List AM} (h : ∀ a, a ∈ l → 0 ≤ a.A ∧ 0 ≤ a.B) (hk : 0 ≤ k) : spanM (l.map (shiftA k y)) k s = (spanM l k s).map fun m => m + s * y := by
  unfold spanM
  have e := shift_max (k := k) (y := y) (l := l) (x := ⟨k, s, 0, 0, 0⟩) h ⟨hk, Int.le_refl _⟩
  have e1 : shiftA k y ⟨k, s, 0, 0, 0⟩ = ⟨k, s, 0, 0, s * y⟩ := by
    simp [shiftA]
  rw [e1, max_most] at e
  rw [e]
  simp
theorem index_of {n : Int} {l r : List AM} (h : checkN n l = 0) (hr : checkN n r = 0) (k : Int) : indexN n r k = indexN n l k := by
  unfold indexN
  rw [if_pos h, if_pos hr]
theorem turn_span {n k : Int} {l : List AM} (h : checkN n l = 0) (hk : 0 ≤ k) : spanE n (l.map (turnA k)) k = spanE n l k ∧ spanLo n (l.map (turnA k)) k = -(spanHi n l k) ∧ spanHi n (l.map (turnA k)) k = -(spanLo n l k) := by
  have hn := rights_nonneg (checkN_in h).2.2
  unfold spanE spanLo spanHi
  rw [index_of h (turn_check h) k, turn_poss hn, turn_spanM hn hk, turn_spanM hn hk, Int.neg_neg]
  by_cases h1 : indexN n l k = 0
  · by_cases h2 : possB l = true
    · rw [if_pos h1, if_pos h1, if_pos h2, if_pos h2, if_pos ⟨h1, h2⟩, if_pos ⟨h1, h2⟩, if_pos ⟨h1, h2⟩, if_pos ⟨h1, h2⟩]
      cases spanM l k (-1) <;> cases spanM l k 1 <;> simp
    · rw [if_pos h1, if_pos h1, if_neg h2, if_neg h2, if_neg (fun h => h2 h.2), if_neg (fun h => h2 h.2), if_neg (fun h => h2 h.2), if_neg (fun h => h2 h.2)]
      simp
  · rw [if_neg h1, if_neg h1, if_neg (fun h => h1 h.1), if_neg (fun h => h1 h.1), if_neg (fun h => h1 h.1), if_neg (fun h => h1 h.1)]
    simp
theorem shift_span {n k y : Int} {l : List AM} (h : checkN n l = 0) (hr : checkN n (l.map (shiftA k y)) = 0) (hk : 0 ≤ k) : spanE n (l.map (shiftA k y)) k = spanE n l k ∧ (spanE n l k = 0 → spanLo n (l.map (shiftA k y)) k = spanLo n l k + y ∧ spanHi n (l.map (shiftA k y)) k = spanHi n l k + y) := by
  have hn := rights_nonneg (checkN_in h).2.2
  unfold spanE spanLo spanHi
  rw [index_of h hr k, shift_poss hn, shift_spanM hn hk, shift_spanM hn hk]
  by_cases h1 : indexN n l k = 0
  · by_cases h2 : possB l = true
    · rw [if_pos h1, if_pos h1, if_pos h2, if_pos h2, if_pos ⟨h1, h2⟩, if_pos ⟨h1, h2⟩, if_pos ⟨h1, h2⟩, if_pos ⟨h1, h2⟩]
      cases spanM l k (-1) <;> cases spanM l k 1 <;> simp
      omega
    · rw [if_pos h1, if_pos h1, if_neg h2, if_neg h2]
      simp
  · rw [if_neg h1, if_neg h1]
    exact ⟨rfl, fun h => absurd h h1⟩

theorem fitIs_iff {n : Int} {l : List AM} {x : List Int} : fitIs n l x = true ↔ (checkN n l = 0 ∧ (x.length : Int) = n ∧ x.all inF = true ∧ Sat l (fn x)) := by
  unfold fitIs
  by_cases h : fitE n l x = 0
  · rw [if_pos h]
    unfold fitE at h
    split at h
    · rename_i hc
      split at h
      · rename_i hx
        rw [Option.isNone_iff_eq_none, List.findIdx?_eq_none_iff]
        constructor
        · intro H
          refine ⟨hc, hx.1, hx.2, fun a ha => ?_⟩
          have := H a ha
          simp only [badB, decide_eq_false_iff_not] at this
          omega
        · rintro ⟨_, _, _, H⟩ a ha
          have := H a ha
          simp only [badB, decide_eq_false_iff_not]
          omega
      · cases h
    · rename_i hc
      exact absurd h hc
  · rw [if_neg h]
    constructor
    · intro e
      cases e
    · rintro ⟨h1, h2, h3, _⟩
      refine absurd ?_ h
      unfold fitE
      rw [if_pos h1, if_pos ⟨h2, h3⟩]
theorem fn_set {x : List Int} {k : Nat} (hk : k < x.length) (v : Int) (i : Nat) : fn (x.set k v) i = if i = k then v else fn x i := by
  unfold fn
  simp only [List.getD_eq_getElem?_getD, List.getElem?_set]
  by_cases e : i = k
  · subst e
    simp [hk]
  · rw [if_neg (fun h => e h.symm), if_neg e]
theorem all_set {x : List Int} {k : Nat} {v : Int} (h : x.all inF = true) (hv : inF v = true) : (x.set k v).all inF = true := by
  rw [List.all_eq_true] at *
  intro y hy
  rcases List.mem_or_eq_of_mem_set hy with h1 | h1
  · exact h y h1
  · rw [h1]
    exact hv
theorem turn_fits {n : Int} {l : List AM} {x : List Int} {k : Nat} (hk : k < x.length) (h : fitIs n l x = true) : fitIs n (l.map (turnA k)) (x.set k (-(x[k]))) = true := by
  obtain ⟨hc, hl, ha, hs⟩ := fitIs_iff.1 h
  have hn := rights_nonneg (checkN_in hc).2.2
  refine fitIs_iff.2 ⟨turn_check hc, by rw [List.length_set]; exact hl, all_set ha ?_, ?_⟩
  · have := List.all_eq_true.1 ha _ (List.getElem_mem hk)
    simp [inF, inB] at *
    omega
  · have e : fn (x.set k (-(x[k]))) = turnX k (fn x) := by
      funext i
      rw [fn_set hk]
      unfold turnX
      by_cases e : i = k
      · subst e
        rw [if_pos rfl, if_pos rfl]
        simp [fn, hk]
      · rw [if_neg e, if_neg (by omega)]
    rw [e]
    exact turn_sat hn hs
theorem shift_fits {n y : Int} {l : List AM} {x : List Int} {k : Nat} (hk : k < x.length) (h : fitIs n l x = true) (hr : checkN n (l.map (shiftA k y)) = 0) (hx : -549755813888 < x[k] ∧ x[k] < 549755813888) (hy : -1000000 ≤ y ∧ y ≤ 1000000) : fitIs n (l.map (shiftA k y)) (x.set k (x[k] + y)) = true := by
  obtain ⟨hc, hl, ha, hs⟩ := fitIs_iff.1 h
  have hn := rights_nonneg (checkN_in hc).2.2
  refine fitIs_iff.2 ⟨hr, by rw [List.length_set]; exact hl, all_set ha ?_, ?_⟩
  · simp [inF, inB]
    omega
  · have e : fn (x.set k (x[k] + y)) = shiftX k y (fn x) := by
      funext i
      rw [fn_set hk]
      unfold shiftX
      by_cases e : i = k
      · subst e
        rw [if_pos rfl, if_pos rfl]
        simp [fn, hk]
      · rw [if_neg e, if_neg (by omega)]
    rw [e]
    exact shift_sat hn hs
theorem turn_same {n k : Int} {l : List AM} (h : checkN n l = 0) : possV n (l.map (turnA k)) = possV n l ∧ neededL n (l.map (turnA k)) = neededL n l ∧ coreL n (l.map (turnA k)) = coreL n l ∧ coreB n (l.map (turnA k)) = coreB n l := by
  have hn := rights_nonneg (checkN_in h).2.2
  unfold possV neededL coreL coreB
  rw [if_pos h, if_pos h, if_pos h, if_pos h, if_pos (turn_check h), if_pos (turn_check h), if_pos (turn_check h), if_pos (turn_check h), turn_poss hn, turn_keepE hn, turn_keepS hn]
  exact ⟨rfl, rfl, rfl, rfl⟩
theorem shift_same {n k y : Int} {l : List AM} (h : checkN n l = 0) (hr : checkN n (l.map (shiftA k y)) = 0) : possV n (l.map (shiftA k y)) = possV n l ∧ neededL n (l.map (shiftA k y)) = neededL n l ∧ coreL n (l.map (shiftA k y)) = coreL n l ∧ coreB n (l.map (shiftA k y)) = coreB n l := by
  have hn := rights_nonneg (checkN_in h).2.2
  unfold possV neededL coreL coreB
  rw [if_pos h, if_pos h, if_pos h, if_pos h, if_pos hr, if_pos hr, if_pos hr, if_pos hr, shift_poss hn, shift_keepE hn, shift_keepS hn]
  exact ⟨rfl, rfl, rfl, rfl⟩
theorem turn_twice (k : Int) (l : List AM) : (l.map (turnA k)).map (turnA k) = l := by
  rw [List.map_map, show (turnA k ∘ turnA k) = id from funext fun a => turn_turn k a, List.map_id]
theorem needed_short (n : Int) (l : List AM) : (neededL n l).length ≤ l.length := by
  unfold neededL
  split
  · exact keepFrom_length _ _ _
  · exact Nat.zero_le _
theorem core_short (n : Int) (l : List AM) : (coreL n l).length ≤ l.length := by
  unfold coreL
  split
  · split
    · exact Nat.zero_le _
    · exact keepFrom_length _ _ _
  · exact Nat.zero_le _
end Go.Proofs.Ytnjbahiaelehkaa
