/- What Lay makes of a matrix, in plain words: each row stands where it begins, and nothing else does. -/
import Derived.Test.YtliajnflmddnoaaP3
namespace Go.Proofs.Ytliajnflmddnoaa

/-- The entry of a row in a column, -1 where there is none. -/
def ent (m : List (List Int)) (i k : Nat) : Int := (m.getD i []).getD k (-1)
def sumM (m : List (List Int)) (l : List Nat) : Nat := (l.map fun i => manyN (m.getD i [])).sum
/-- The rows l are laid. -/
structure LI (m : List (List Int)) (l : List Nat) (S : List Int) (C : List (Int × Int)) : Prop where
  len : S.length = m.length
  st : ∀ i, i ∈ l → ∃ s : Nat, S.getD i (-1) = s ∧ s + colsN m ≤ C.length ∧ ∀ k, nz (ent m i k) = true → C.getD (s + k) (-1, 0) = ((i : Int), ent m i k)
  cell : ∀ p, C.getD p (-1, 0) = (-1, 0) ∨ ∃ i, i ∈ l ∧ ∃ s k : Nat, S.getD i (-1) = s ∧ p = s + k ∧ nz (ent m i k) = true ∧ C.getD p (-1, 0) = ((i : Int), ent m i k)
  none : l = [] → C = []
  top : l ≠ [] → ∃ i, i ∈ l ∧ S.getD i (-1) + colsN m = C.length
  cnt : C.countP noRow + sumM m l = C.length
  size : C.length ≤ l.length * colsN m

theorem count_set {α : Type} (p : α → Bool) : ∀ (l : List α) (i : Nat) (x : α) (h : i < l.length), p l[i] = true → p x = false → (l.set i x).countP p + 1 = l.countP p
  | a :: l, 0, x, _, h1, h2 => by
    rw [List.set_cons_zero, List.countP_cons, List.countP_cons]
    simp at h1
    simp [h1, h2]
  | a :: l, i + 1, x, h, h1, h2 => by
    rw [List.set_cons_succ, List.countP_cons, List.countP_cons]
    have := count_set p l i x (by simpa using h) (by simpa using h1) h2
    omega
theorem putU_count (row : List Int) (idx : Nat) (s : Nat) : ∀ (l : List Nat) (C : List (Int × Int)), l.Nodup → (∀ k, k ∈ l → s + k < C.length ∧ noRow (C.getD (s + k) (-1, 0)) = true) →
    (putU C row idx s l).countP noRow + l.length = C.countP noRow
  | [], C, _, _ => rfl
  | k :: l, C, hn, h => by
    show (putU (C.set (s + k) ((idx : Int), row.getD k (-1))) row idx s l).countP noRow + (l.length + 1) = _
    obtain ⟨hk, hn'⟩ := List.nodup_cons.1 hn
    obtain ⟨h1, h2⟩ := h k (List.mem_cons_self ..)
    have ih := putU_count row idx s l (C.set (s + k) ((idx : Int), row.getD k (-1))) hn' (fun k' hk' => by
      obtain ⟨h3, h4⟩ := h k' (List.mem_cons_of_mem _ hk')
      refine ⟨by rw [List.length_set]; exact h3, ?_⟩
      rw [set_at _ _ _ _ _ h1, if_neg]
      · exact h4
      · intro e
        obtain rfl : k = k' := by omega
        exact hk hk')
    rw [getD_in h1] at h2
    have := count_set noRow C (s + k) ((idx : Int), row.getD k (-1)) h1 h2 (by unfold noRow; simp)
    omega
theorem pad_count (C : List (Int × Int)) (n : Nat) : (padL C n).countP noRow = C.countP noRow + (n - C.length) := by
  unfold padL
  rw [List.countP_append, List.countP_replicate, if_pos (show noRow (-1, 0) = true from rfl)]
theorem fullL_nodup (row : List Int) : (fullL row).Nodup := by
  unfold fullL fullU
  exact List.nodup_range.filter _
/-- As many cells are taken as the row has entries. -/
theorem put_count {C : List (Int × Int)} {row : List Int} {idx : Nat} (h : ∀ p, occ C p = false → C.getD p (-1, 0) = (-1, 0)) :
    (putL C row idx).countP noRow + manyN row + C.length = C.countP noRow + (putL C row idx).length := by
  have h1 : (putL C row idx).countP noRow + manyN row = (padL C (startN C row + row.length)).countP noRow := by
    unfold putL manyN
    refine putU_count row idx _ _ _ (fullL_nodup row) fun k hk => ⟨?_, ?_⟩
    · have := (mem_fullL.1 hk).1
      rw [padL_length]
      omega
    · rw [pad_at, h _ (start_free (mem_full.1 hk))]
      rfl
  rw [h1, pad_count, putL_length]
  omega
theorem full_some {row : List Int} {k : Nat} (h : nz (row.getD k (-1)) = true) : k < row.length := nz_lt h
theorem LI.occ_none {m : List (List Int)} {l : List Nat} {S : List Int} {C : List (Int × Int)} (h : LI m l S C) {p : Nat} (ho : occ C p = false) : C.getD p (-1, 0) = (-1, 0) := by
  rcases h.cell p with e | ⟨i, _, s, k, _, _, _, e⟩
  · exact e
  · unfold occ at ho
    rw [e] at ho
    simp at ho
theorem LI.start (m : List (List Int)) : LI m [] (List.replicate m.length 0) [] :=
  ⟨by simp, fun i hi => (by cases hi), fun p => .inl (by simp [List.getD]), fun _ => rfl, fun h => absurd rfl h, rfl, Nat.zero_le _⟩
theorem LI.step {m : List (List Int)} (hm : RightM m) {l : List Nat} {S : List Int} {C : List (Int × Int)} (h : LI m l S C) {i : Nat} (hi : i < m.length) (hn : i ∉ l) :
    LI m (l ++ [i]) (S.set i (startN C (m.getD i []))) (putL C (m.getD i []) i) := by
  have hlen : (m.getD i []).length = colsN m := by rw [getD_in hi]; exact hm.len i hi
  have hpl := putL_length C (m.getD i []) i
  rw [hlen] at hpl
  have hsp := (start_spec C (m.getD i [])).1
  have hS : ∀ j, (S.set i (startN C (m.getD i []) : Int)).getD j (-1) = if i = j then (startN C (m.getD i []) : Int) else S.getD j (-1) := fun j => set_at _ _ _ _ _ (by rw [h.len]; exact hi)
  refine ⟨by rw [List.length_set]; exact h.len, fun j hj => ?_, fun p => ?_, fun e => ?_, fun _ => ?_, ?_, ?_⟩
  · rw [hS]
    rcases List.mem_append.1 hj with hj | hj
    · have hne : i ≠ j := fun e => hn (e ▸ hj)
      obtain ⟨s, h1, h2, h3⟩ := h.st j hj
      refine ⟨s, by rw [if_neg hne]; exact h1, by omega, fun k hk => ?_⟩
      rw [put_old]
      · exact h3 k hk
      · unfold occ
        rw [h3 k hk]
        simp
    · obtain rfl := List.mem_singleton.1 hj
      refine ⟨_, by rw [if_pos rfl], by omega, fun k hk => ?_⟩
      exact put_new hk
  · rw [put_at]
    by_cases hc : startN C (m.getD i []) ≤ p ∧ nz ((m.getD i []).getD (p - startN C (m.getD i [])) (-1)) = true
    · rw [if_pos hc]
      exact .inr ⟨i, by simp, startN C (m.getD i []), p - startN C (m.getD i []), by rw [hS, if_pos rfl], by omega, hc.2, rfl⟩
    · rw [if_neg hc]
      rcases h.cell p with e | ⟨j, hj, s, k, h1, h2, h3, h4⟩
      · exact .inl e
      · have hne : i ≠ j := fun e => hn (e ▸ hj)
        exact .inr ⟨j, by simp [hj], s, k, by rw [hS, if_neg hne]; exact h1, h2, h3, h4⟩
  · simp at e
  · by_cases hl : l = []
    · have hc := h.none hl
      refine ⟨i, by simp, ?_⟩
      rw [hS, if_pos rfl, hpl, hc]
      rw [hc] at hsp
      simp at hsp ⊢
    · obtain ⟨j, hj, h1⟩ := h.top hl
      have hne : i ≠ j := fun e => hn (e ▸ hj)
      by_cases hc : startN C (m.getD i []) + colsN m ≤ C.length
      · refine ⟨j, by simp [hj], ?_⟩
        rw [hS, if_neg hne, hpl]
        omega
      · refine ⟨i, by simp, ?_⟩
        rw [hS, if_pos rfl, hpl]
        omega
  · have hcn := put_count (row := m.getD i []) (idx := i) (fun p => h.occ_none (p := p))
    have h0 := h.cnt
    unfold sumM at *
    rw [List.map_append, List.sum_append, show (List.map (fun i => manyN (m.getD i [])) [i]).sum = manyN (m.getD i []) from by simp]
    omega
  · rw [hpl, List.length_append, Nat.add_mul, show [i].length * colsN m = colsN m from by simp]
    have := h.size
    omega
theorem lay_from {m : List (List Int)} (hm : RightM m) : ∀ (l2 l1 : List Nat) (st : List Int × List (Int × Int)), LI m l1 st.1 st.2 → (l1 ++ l2).Nodup → (∀ i, i ∈ l2 → i < m.length) →
    LI m (l1 ++ l2) (l2.foldl (layStep m) st).1 (l2.foldl (layStep m) st).2
  | [], l1, st, h, _, _ => by rw [List.append_nil]; exact h
  | i :: l2, l1, st, h, hn, hl => by
    have e : l1 ++ i :: l2 = (l1 ++ [i]) ++ l2 := by simp
    rw [e] at hn ⊢
    refine lay_from hm l2 (l1 ++ [i]) (layStep m st i) (h.step hm (hl i (List.mem_cons_self ..)) ?_) hn fun j hj => hl j (List.mem_cons_of_mem _ hj)
    have := (List.nodup_append.1 (List.nodup_append.1 hn).1).2.2
    intro hi
    exact this i hi i (by simp) rfl
theorem layU_inv {m : List (List Int)} (hm : RightM m) {l : List Nat} (hn : l.Nodup) (hl : ∀ i, i ∈ l → i < m.length) : LI m l (layU m l).1 (layU m l).2 := by
  have := lay_from hm l [] (List.replicate m.length 0, []) (LI.start m) (by simpa using hn) hl
  rw [List.nil_append] at this
  exact this
theorem lay_inv {m : List (List Int)} (hm : RightM m) : LI m (orderL m) (layL m).1 (layL m).2 :=
  layU_inv hm (bef_nodup (order_pair m)) fun _ hi => (order_mem hm).1 hi

/-- Rows that are laid. -/
def layR (m : List (List Int)) : Ld := ⟨colsN m, (layL m).1, (layL m).2⟩
def layV (m : List (List Int)) : Ld := if chkM m = 0 then layR m else emptyL
theorem ent_right {m : List (List Int)} (hm : RightM m) {i k : Nat} (hi : i < m.length) (h : nz (ent m i k) = true) : k < colsN m ∧ thereB (ent m i k) = true := by
  have hlen : (m.getD i []).length = colsN m := by rw [getD_in hi]; exact hm.len i hi
  have hk := nz_lt h
  rw [hlen] at hk
  refine ⟨hk, ?_⟩
  unfold ent at h ⊢
  rw [there_nz]
  · exact h
  · rw [getD_in (by rw [hlen]; exact hk)]
    refine hm.ent i hi _ ?_
    rw [← getD_in (d := []) hi]
    exact List.getElem_mem _
theorem lay_st {m : List (List Int)} (hm : RightM m) {i : Nat} (hi : i < m.length) : ∃ s : Nat, (layR m).st i = s ∧ s + colsN m ≤ (layR m).cells.length ∧ ∀ k, nz (ent m i k) = true → (layR m).cell (s + k) = ((i : Int), ent m i k) :=
  (lay_inv hm).st i ((order_mem hm).2 hi)
theorem lay_right {m : List (List Int)} (hm : RightM m) : RightL (layR m) := by
  have h := lay_inv hm
  have hsz := h.size
  rw [order_length hm] at hsz
  refine ⟨?_, ?_, ?_, ?_, fun i hi => ?_, fun p _ => ?_⟩
  · show (layL m).1.length ≤ 60
    rw [h.len]
    exact hm.rows
  · show (layL m).2.length ≤ 30000
    have : m.length * colsN m ≤ 60 * 400 := Nat.mul_le_mul hm.rows hm.cols
    omega
  · show (0 : Int) ≤ (colsN m : Int)
    omega
  · show (colsN m : Int) ≤ 400
    have := hm.cols
    omega
  · have hi' : i < m.length := by rw [← h.len]; exact hi
    obtain ⟨s, h1, h2, _⟩ := lay_st hm hi'
    refine .inr ⟨by omega, ?_⟩
    show _ + (colsN m : Int) ≤ _
    omega
  · rcases h.cell p with e | ⟨i, hi, s, k, h1, h2, h3, h4⟩
    · exact .inl e
    · have hi' := (order_mem hm).1 hi
      obtain ⟨h5, h6⟩ := ent_right hm hi' h3
      have h7 : (layR m).cell p = ((i : Int), ent m i k) := h4
      have h8 : (layR m).st i = s := h1
      refine .inr ⟨i, by rw [h7], ?_, by rw [h7]; exact h6, by omega, by omega, ?_⟩
      · show i < (layL m).1.length
        rw [h.len]
        exact hi'
      · show (p : Int) < _ + (colsN m : Int)
        omega
theorem lay_look {m : List (List Int)} (hm : RightM m) {i : Nat} (hi : i < m.length) (k : Nat) : lookN (layR m) i k = ent m i k := by
  obtain ⟨s, h1, h2, h3⟩ := lay_st hm hi
  unfold lookN
  rw [h1, Int.toNat_natCast]
  cases hn : nz (ent m i k) with
  | true =>
    rw [h3 k hn, if_pos rfl]
  | false =>
    have he : ent m i k = -1 := by simpa [nz] using hn
    rw [he]
    split
    · rename_i hc
      rcases (lay_inv hm).cell (s + k) with e | ⟨j, hj, s', k', h4, h5, h6, h7⟩
      · have e' : (layR m).cell (s + k) = (-1, 0) := e
        rw [e'] at hc
        simp at hc
      · have e' : (layR m).cell (s + k) = ((j : Int), ent m j k') := h7
        rw [e'] at hc
        obtain rfl : j = i := by simp at hc; omega
        have e4 : (layR m).st j = s' := h4
        obtain rfl : k' = k := by omega
        rw [hn] at h6
        cases h6
    · rfl
theorem lay_back {m : List (List Int)} (hm : RightM m) : backM (layR m) = m := by
  have h := lay_inv hm
  have hsl : (layR m).starts.length = m.length := h.len
  unfold backM
  refine List.ext_getElem (by rw [List.length_map, List.length_range, hsl]) fun i h1 h2 => ?_
  rw [List.getElem_map, List.getElem_range]
  refine List.ext_getElem ?_ fun k h3 h4 => ?_
  · rw [List.length_map, List.length_range, hm.len i h2]
    show ((colsN m : Int)).toNat = _
    omega
  · rw [List.getElem_map, List.getElem_range]
    unfold backE
    obtain ⟨s, h5, _⟩ := lay_st hm h2
    rw [if_neg (by omega), lay_look hm h2]
    unfold ent
    have e : m.getD i [] = m[i] := getD_in h2
    rw [e, getD_in h4]
theorem lay_spare {m : List (List Int)} (hm : RightM m) : (layR m).cells.countP noRow + sumM m (List.range m.length) = (layR m).cells.length := by
  have h := (lay_inv hm).cnt
  have e : sumM m (orderL m) = sumM m (List.range m.length) := by
    unfold sumM
    exact ((order_perm hm).map _).sum_nat
  rw [← e]
  exact h
theorem lay_top {m : List (List Int)} (hm : RightM m) : (∀ i, i < m.length → (layR m).st i + colsN m ≤ (layR m).cells.length) ∧ ∃ i, i < m.length ∧ (layR m).st i + colsN m = (layR m).cells.length := by
  constructor
  · intro i hi
    obtain ⟨s, h1, h2, _⟩ := lay_st hm hi
    omega
  · have hne : orderL m ≠ [] := by
      intro e
      have := order_length hm
      rw [e] at this
      have := hm.some'
      simp at *
      omega
    obtain ⟨i, hi, h⟩ := (lay_inv hm).top hne
    exact ⟨i, (order_mem hm).1 hi, h⟩
end Go.Proofs.Ytliajnflmddnoaa
