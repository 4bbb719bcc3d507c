/- Rows that are laid over each other, in plain words: which are right, what stands where, what a put changes. -/
import Derived.Test.YtliajnflmddnoaaP2
namespace Go.Proofs.Ytliajnflmddnoaa

/-- Rows laid over each other: columns, starts, cells. -/
structure Ld where
  cols : Int
  starts : List Int
  cells : List (Int × Int)
def emptyL : Ld := ⟨0, [], []⟩
def Ld.st (L : Ld) (i : Nat) : Int := L.starts.getD i (-1)
def Ld.cell (L : Ld) (i : Nat) : Int × Int := L.cells.getD i (-1, 0)
def badS (n : Int) (k : Nat) (s : Int) : Bool := decide (s < -1) || (decide (0 ≤ s) && decide ((k : Int) - n < s))
def cellOk (L : Ld) (i : Nat) (p : Int × Int) : Bool := (p == (-1, 0)) || ((decide (0 ≤ p.1) && decide (p.1 < L.starts.length) && thereB p.2) && (decide (0 ≤ L.st p.1.toNat) && decide (L.st p.1.toNat ≤ i) && decide ((i : Int) < L.st p.1.toNat + L.cols)))
def cellsOk (L : Ld) (k : Nat) : Bool := (List.range k).all fun i => cellOk L i (L.cell i)
/-- The first error of rows laid over each other. -/
def chkL (L : Ld) : Int := if 60 < L.starts.length ∨ 30000 < L.cells.length then 3 else if ¬ (0 ≤ L.cols ∧ L.cols ≤ 400) then 1 else if L.starts.any (badS L.cols L.cells.length) = true then 1 else if cellsOk L L.cells.length = true then 0 else 1

structure RightL (L : Ld) : Prop where
  rows : L.starts.length ≤ 60
  room : L.cells.length ≤ 30000
  col0 : 0 ≤ L.cols
  col1 : L.cols ≤ 400
  start : ∀ i, i < L.starts.length → L.st i = -1 ∨ (0 ≤ L.st i ∧ L.st i + L.cols ≤ L.cells.length)
  own : ∀ i, i < L.cells.length → L.cell i = (-1, 0) ∨ ∃ r : Nat, (L.cell i).1 = r ∧ r < L.starts.length ∧ thereB (L.cell i).2 = true ∧ 0 ≤ L.st r ∧ L.st r ≤ i ∧ (i : Int) < L.st r + L.cols
theorem badS_no {n : Int} {k : Nat} {s : Int} (h : badS n k s = false) : s = -1 ∨ (0 ≤ s ∧ s + n ≤ k) := by
  unfold badS at h
  simp at h
  omega
theorem badS_of {n : Int} {k : Nat} {s : Int} (h : s = -1 ∨ (0 ≤ s ∧ s + n ≤ k)) : badS n k s = false := by
  unfold badS
  simp
  omega
theorem cellOk_iff {L : Ld} {i : Nat} {p : Int × Int} : cellOk L i p = true ↔ p = (-1, 0) ∨ ∃ r : Nat, p.1 = r ∧ r < L.starts.length ∧ thereB p.2 = true ∧ 0 ≤ L.st r ∧ L.st r ≤ i ∧ (i : Int) < L.st r + L.cols := by
  unfold cellOk
  simp only [Bool.or_eq_true, Bool.and_eq_true, decide_eq_true_eq, beq_iff_eq]
  constructor
  · rintro (h | ⟨⟨⟨h1, h2⟩, h3⟩, ⟨h4, h5⟩, h6⟩)
    · exact .inl h
    · exact .inr ⟨p.1.toNat, by omega, by omega, h3, h4, h5, h6⟩
  · rintro (h | ⟨r, h1, h2, h3, h4, h5, h6⟩)
    · exact .inl h
    · have e : p.1.toNat = r := by omega
      rw [e]
      exact .inr ⟨⟨⟨by omega, by omega⟩, h3⟩, ⟨h4, h5⟩, h6⟩
theorem chkL_ok {L : Ld} (h : chkL L = 0) : RightL L := by
  unfold chkL at h
  split at h
  · cases h
  · rename_i h1
    split at h
    · cases h
    · rename_i h2
      split at h
      · cases h
      · rename_i h3
        split at h
        · rename_i h4
          rw [not_or] at h1
          rw [Decidable.not_not] at h2
          refine ⟨by omega, by omega, h2.1, h2.2, fun i hi => ?_, fun i hi => ?_⟩
          · refine badS_no ?_
            rw [Bool.eq_false_iff]
            intro hb
            refine h3 (List.any_eq_true.2 ⟨_, List.getElem_mem hi, ?_⟩)
            unfold Ld.st at hb
            rw [getD_in hi] at hb
            exact hb
          · exact cellOk_iff.1 (List.all_eq_true.1 h4 i (List.mem_range.2 hi))
        · cases h
theorem RightL.chk {L : Ld} (h : RightL L) : chkL L = 0 := by
  unfold chkL
  rw [if_neg (by have := h.rows; have := h.room; omega), if_neg (by have := h.col0; have := h.col1; omega), if_neg, if_pos]
  · unfold cellsOk
    rw [List.all_eq_true]
    intro i hi
    exact cellOk_iff.2 (h.own i (List.mem_range.1 hi))
  · rw [List.any_eq_true]
    rintro ⟨s, hs, hb⟩
    obtain ⟨i, hi, rfl⟩ := List.getElem_of_mem hs
    have := badS_of (h.start i hi)
    unfold Ld.st at this
    rw [getD_in hi, hb] at this
    cases this

/-- A cell belongs to a row. -/
def occ (C : List (Int × Int)) (p : Nat) : Bool := decide (0 ≤ (C.getD p (-1, 0)).1)
theorem occ_out {C : List (Int × Int)} {p : Nat} (h : C.length ≤ p) : occ C p = false := by
  unfold occ
  rw [List.getD_eq_getElem?_getD, List.getElem?_eq_none h]
  rfl
theorem fits_occ (C : List (Int × Int)) (row : List Int) (s : Nat) : fitsB C row s = (fullL row).all fun k => !occ C (s + k) := by
  unfold fitsB
  congr 1
  funext k
  by_cases h : C.length ≤ s + k
  · rw [occ_out h]
    simp [h]
  · unfold occ
    rw [Bool.eq_iff_iff]
    simp [h]
theorem nz_lt {row : List Int} {k : Nat} (h : nz (row.getD k (-1)) = true) : k < row.length := by
  rcases Nat.lt_or_ge k row.length with h' | h'
  · exact h'
  · rw [List.getD_eq_getElem?_getD, List.getElem?_eq_none h'] at h
    cases h
theorem mem_full {row : List Int} {k : Nat} : k ∈ fullL row ↔ nz (row.getD k (-1)) = true := by
  rw [mem_fullL]
  exact ⟨fun h => h.2, fun h => ⟨nz_lt h, h⟩⟩
theorem fits_iff {C : List (Int × Int)} {row : List Int} {s : Nat} : fitsB C row s = true ↔ ∀ k, nz (row.getD k (-1)) = true → occ C (s + k) = false := by
  rw [fits_occ, List.all_eq_true]
  constructor
  · intro h k hk
    simpa using h k (mem_full.2 hk)
  · intro h k hk
    simpa using h k (mem_full.1 hk)
/-- Where a row begins hangs on which cells belong to rows alone. -/
theorem start_congr {C D : List (Int × Int)} {row : List Int} (h : ∀ p, occ C p = occ D p) : startN C row = startN D row := by
  have hf : ∀ s, fitsB C row s = fitsB D row s := fun s => by
    rw [fits_occ, fits_occ]
    congr 1
    funext k
    rw [h]
  obtain ⟨_, h2, h3⟩ := start_spec D row
  exact start_is (by rw [hf]; exact h2) fun j hj => by rw [hf]; exact h3 j hj
theorem start_free {C : List (Int × Int)} {row : List Int} {k : Nat} (h : nz (row.getD k (-1)) = true) : occ C (startN C row + k) = false := fits_iff.1 (start_spec C row).2.1 k h

theorem pad_at (C : List (Int × Int)) (n p : Nat) : (padL C n).getD p (-1, 0) = C.getD p (-1, 0) := by
  unfold padL
  rw [List.getD_eq_getElem?_getD, List.getD_eq_getElem?_getD, List.getElem?_append]
  by_cases h : p < C.length
  · rw [if_pos h]
  · rw [if_neg h, List.getElem?_eq_none (Nat.le_of_not_lt h), List.getElem?_replicate]
    split <;> rfl
theorem set_at {α : Type} (l : List α) (i p : Nat) (x d : α) (hi : i < l.length) : (l.set i x).getD p d = if i = p then x else l.getD p d := by
  rw [List.getD_eq_getElem?_getD, List.getD_eq_getElem?_getD, List.getElem?_set]
  by_cases h : i = p
  · subst h
    simp [hi]
  · simp [h]
theorem putU_at (row : List Int) (idx : Int) (s p : Nat) : ∀ (l : List Nat) (C : List (Int × Int)), (∀ k, k ∈ l → s + k < C.length) →
    (putU C row idx s l).getD p (-1, 0) = if s ≤ p ∧ p - s ∈ l then (idx, row.getD (p - s) (-1)) else C.getD p (-1, 0)
  | [], C, _ => by rw [if_neg (by simp)]; rfl
  | k :: l, C, h => by
    show (putU (C.set (s + k) (idx, row.getD k (-1))) row idx s l).getD p (-1, 0) = _
    rw [putU_at row idx s p l _ (fun k' hk => by rw [List.length_set]; exact h k' (List.mem_cons_of_mem _ hk))]
    by_cases h1 : s ≤ p ∧ p - s ∈ l
    · rw [if_pos h1, if_pos ⟨h1.1, List.mem_cons_of_mem _ h1.2⟩]
    · rw [if_neg h1, set_at _ _ _ _ _ (h k (List.mem_cons_self ..))]
      by_cases e : s + k = p
      · subst e
        rw [if_pos rfl, if_pos ⟨by omega, by rw [show s + k - s = k from by omega]; exact List.mem_cons_self ..⟩, show s + k - s = k from by omega]
      · rw [if_neg e, if_neg]
        rintro ⟨h2, h3⟩
        rcases List.mem_cons.1 h3 with h3 | h3
        · omega
        · exact h1 ⟨h2, h3⟩
/-- What stands where after a row was put in. -/
theorem put_at (C : List (Int × Int)) (row : List Int) (idx : Int) (p : Nat) :
    (putL C row idx).getD p (-1, 0) = if startN C row ≤ p ∧ nz (row.getD (p - startN C row) (-1)) = true then (idx, row.getD (p - startN C row) (-1)) else C.getD p (-1, 0) := by
  unfold putL
  rw [putU_at, pad_at]
  · simp only [mem_full]
  · intro k hk
    have := (mem_fullL.1 hk).1
    rw [padL_length]
    omega
theorem put_occ (C : List (Int × Int)) (row : List Int) (idx : Nat) (p : Nat) : occ (putL C row idx) p = ((decide (startN C row ≤ p) && nz (row.getD (p - startN C row) (-1))) || occ C p) := by
  unfold occ
  rw [put_at]
  by_cases h : startN C row ≤ p ∧ nz (row.getD (p - startN C row) (-1)) = true
  · rw [if_pos h, h.2, decide_eq_true h.1]
    simp
  · rw [if_neg h]
    by_cases h1 : startN C row ≤ p
    · have : nz (row.getD (p - startN C row) (-1)) = false := by
        rw [Bool.eq_false_iff]
        exact fun h2 => h ⟨h1, h2⟩
      rw [this]
      simp
    · simp [h1]
theorem put_old {C : List (Int × Int)} {row : List Int} {idx : Int} {p : Nat} (h : occ C p = true) : (putL C row idx).getD p (-1, 0) = C.getD p (-1, 0) := by
  rw [put_at, if_neg]
  rintro ⟨h1, h2⟩
  have := start_free (C := C) h2
  rw [show startN C row + (p - startN C row) = p from by omega, h] at this
  cases this
theorem put_new {C : List (Int × Int)} {row : List Int} {idx : Int} {k : Nat} (h : nz (row.getD k (-1)) = true) : (putL C row idx).getD (startN C row + k) (-1, 0) = (idx, row.getD k (-1)) := by
  rw [put_at, show startN C row + k - startN C row = k from by omega, if_pos ⟨by omega, h⟩]

/-- The entry of a row in a column. -/
def lookN (L : Ld) (r c : Nat) : Int := if (L.cell ((L.st r).toNat + c)).1 = r then (L.cell ((L.st r).toNat + c)).2 else -1
def backE (L : Ld) (r c : Nat) : Int := if L.st r < 0 then -1 else lookN L r c
def backM (L : Ld) : List (List Int) := (List.range L.starts.length).map fun r => (List.range L.cols.toNat).map fun c => backE L r c
/-- The error unless there is a row, which was not taken away. -/
def hasE (L : Ld) (r : Int) : Int := if chkL L = 0 then (if 0 ≤ r ∧ r < L.starts.length ∧ 0 ≤ L.st r.toNat then 0 else 5) else chkL L
def lookE (L : Ld) (r c : Int) : Int := if hasE L r = 0 then (if 0 ≤ c ∧ c < L.cols then 0 else 5) else hasE L r
def lookV (L : Ld) (r c : Int) : Int := if lookE L r c = 0 then lookN L r.toNat c.toNat else 0
def backV (L : Ld) : List (List Int) := if chkL L = 0 then backM L else []
def noRow (p : Int × Int) : Bool := p.1 == -1
def spareV (L : Ld) : Int := if chkL L = 0 then (L.cells.countP noRow : Nat) else 0
def takC (r : Int) (p : Int × Int) : Int × Int := if p.1 = r then (-1, 0) else p
def takV (L : Ld) (r : Int) : Ld := if hasE L r = 0 then ⟨L.cols, L.starts.set r.toNat (-1), L.cells.map (takC r)⟩ else emptyL
def insE (L : Ld) (row : List Int) : Int := if chkL L = 0 then (if (row.length : Int) = L.cols ∧ row.all rightB = true then (if 60 ≤ L.starts.length then 3 else if 30000 < (putL L.cells row L.starts.length).length then 14 else 0) else 1) else chkL L
def insV (L : Ld) (row : List Int) : Ld := if insE L row = 0 then ⟨L.cols, L.starts ++ [(startN L.cells row : Int)], putL L.cells row L.starts.length⟩ else emptyL
def insAt (L : Ld) (row : List Int) : Int := if insE L row = 0 then (L.starts.length : Int) else 0

theorem RightL.getD {L : Ld} (h : RightL L) (i : Nat) : L.cell i = (-1, 0) ∨ ∃ r : Nat, (L.cell i).1 = r ∧ r < L.starts.length ∧ thereB (L.cell i).2 = true ∧ 0 ≤ L.st r ∧ L.st r ≤ i ∧ (i : Int) < L.st r + L.cols := by
  rcases Nat.lt_or_ge i L.cells.length with hi | hi
  · exact h.own i hi
  · refine .inl ?_
    unfold Ld.cell
    rw [List.getD_eq_getElem?_getD, List.getElem?_eq_none hi]
    rfl
theorem RightL.occ_none {L : Ld} (h : RightL L) {i : Nat} (ho : occ L.cells i = false) : L.cell i = (-1, 0) := by
  rcases h.getD i with e | ⟨r, e, _⟩
  · exact e
  · unfold occ at ho
    unfold Ld.cell at e
    rw [e] at ho
    simp at ho
end Go.Proofs.Ytliajnflmddnoaa
