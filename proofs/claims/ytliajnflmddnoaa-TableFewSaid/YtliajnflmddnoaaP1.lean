/- What the tables are, in plain words: right matrices, clashes, colours, full columns, order, places. -/
import Derived.Test.YtliajnflmddnoaaG1
namespace Go.Proofs.Ytliajnflmddnoaa

def thereB (e : Int) : Bool := decide (-402 ≤ e) && decide (e ≤ 10000) && e != -1
def rightB (e : Int) : Bool := e == -1 || thereB e
/-- An entry is there. -/
def nz (e : Int) : Bool := e != -1
theorem there_nz {e : Int} (h : rightB e = true) : thereB e = nz e := by
  unfold rightB thereB nz at *
  rw [Bool.eq_iff_iff]
  simp at *
  omega
def colsN (m : List (List Int)) : Nat := (m.headD []).length
def longB (r : List Int) : Bool := decide (400 < r.length)
def evenB (m : List (List Int)) (r : List Int) : Bool := r.length == colsN m && r.all rightB
/-- The first error of a matrix. -/
def chkM (m : List (List Int)) : Int := if 60 < m.length ∨ m.any longB = true then 3 else if m.length = 0 then 1 else if m.all (evenB m) = true then 0 else 1

structure RightM (m : List (List Int)) : Prop where
  rows : m.length ≤ 60
  some' : 0 < m.length
  cols : colsN m ≤ 400
  len : ∀ i (h : i < m.length), m[i].length = colsN m
  ent : ∀ i (h : i < m.length), ∀ e, e ∈ m[i] → rightB e = true
theorem chkM_ok {m : List (List Int)} (h : chkM m = 0) : RightM m := by
  unfold chkM at h
  split at h
  · cases h
  · rename_i h1
    split at h
    · cases h
    · rename_i h2
      split at h
      · rename_i h3
        rw [not_or] at h1
        obtain ⟨h1, h4⟩ := h1
        have hl : ∀ i (hi : i < m.length), m[i].length = colsN m ∧ ∀ e, e ∈ m[i] → rightB e = true := by
          intro i hi
          have := List.all_eq_true.1 h3 m[i] (List.getElem_mem hi)
          unfold evenB at this
          simp only [Bool.and_eq_true, beq_iff_eq, List.all_eq_true] at this
          exact this
        refine ⟨by omega, by omega, ?_, fun i hi => (hl i hi).1, fun i hi => (hl i hi).2⟩
        have h0 : 0 < m.length := by omega
        rw [← (hl 0 h0).1]
        have : longB m[0] = false := by
          rw [Bool.eq_false_iff]
          intro hx
          exact h4 (List.any_eq_true.2 ⟨_, List.getElem_mem h0, hx⟩)
        simpa [longB] using this
      · cases h
theorem RightM.chk {m : List (List Int)} (h : RightM m) : chkM m = 0 := by
  unfold chkM
  rw [if_neg, if_neg, if_pos]
  · rw [List.all_eq_true]
    intro r hr
    obtain ⟨i, hi, rfl⟩ := List.getElem_of_mem hr
    unfold evenB
    simp only [Bool.and_eq_true, beq_iff_eq, List.all_eq_true]
    exact ⟨h.len i hi, h.ent i hi⟩
  · have := h.some'; omega
  · rw [not_or]
    refine ⟨by have := h.rows; omega, ?_⟩
    rw [List.any_eq_true]
    rintro ⟨r, hr, h1⟩
    obtain ⟨i, hi, rfl⟩ := List.getElem_of_mem hr
    unfold longB at h1
    rw [h.len i hi] at h1
    have := h.cols
    simp at h1
    omega

/-- The first place that meets p, or -1. -/
def idxP {α : Type} (p : α → Bool) (l : List α) : Int := match l.findIdx? p with | some i => i | none => -1
theorem idxP_some {α : Type} {p : α → Bool} {l : List α} {i : Nat} (h : i < l.length) (hp : p l[i] = true) (hn : ∀ x, x ∈ l.take i → p x = false) : idxP p l = i := by
  unfold idxP
  have : l.findIdx? p = some i := by
    rw [List.findIdx?_eq_some_iff_getElem]
    refine ⟨h, hp, fun j hj => ?_⟩
    have := hn l[j] (by rw [List.mem_take_iff_getElem]; exact ⟨j, by omega, rfl⟩)
    simp [this]
  rw [this]
theorem idxP_none {α : Type} {p : α → Bool} {l : List α} (hn : ∀ x, x ∈ l → p x = false) : idxP p l = -1 := by
  unfold idxP
  have : l.findIdx? p = none := by rw [List.findIdx?_eq_none_iff]; exact fun x hx => hn x hx
  rw [this]
theorem idxP_any {α : Type} (p : α → Bool) (l : List α) : decide (0 ≤ idxP p l) = l.any p := by
  unfold idxP
  cases h : l.findIdx? p with
  | none =>
    rw [List.findIdx?_eq_none_iff] at h
    symm
    rw [show decide ((0 : Int) ≤ -1) = false from rfl, List.any_eq_false]
    intro x hx
    simp [h x hx]
  | some i =>
    obtain ⟨hi, hp, _⟩ := List.findIdx?_eq_some_iff_getElem.1 h
    have : l.any p = true := List.any_eq_true.2 ⟨_, List.getElem_mem hi, hp⟩
    rw [this]
    simp
theorem idxP_lt {α : Type} (p : α → Bool) (l : List α) : -1 ≤ idxP p l ∧ idxP p l < l.length := by
  unfold idxP
  cases h : l.findIdx? p with
  | none => exact ⟨Int.le_refl _, by have := Int.natCast_nonneg l.length; show (-1 : Int) < _; omega⟩
  | some i =>
    obtain ⟨hi, _, _⟩ := List.findIdx?_eq_some_iff_getElem.1 h
    exact ⟨by show (-1 : Int) ≤ (i : Int); omega, by show (i : Int) < _; omega⟩
theorem idxP_congr {α : Type} {p q : α → Bool} {l : List α} (h : ∀ x, x ∈ l → p x = q x) : idxP p l = idxP q l := by
  unfold idxP
  congr 1
  induction l with
  | nil => rfl
  | cons x l ih =>
    rw [List.findIdx?_cons, List.findIdx?_cons, h x (List.mem_cons_self ..), ih fun y hy => h y (List.mem_cons_of_mem _ hy)]

/-- Two columns clash in a row. -/
def cl (a b : Nat) (r : List Int) : Bool := nz (r.getD a (-1)) && nz (r.getD b (-1))
def clashM (m : List (List Int)) (a b : Nat) : Int := idxP (cl a b) m
def clB (m : List (List Int)) (a b : Nat) : Bool := m.any (cl a b)
theorem clashM_clB (m : List (List Int)) (a b : Nat) : decide (0 ≤ clashM m a b) = clB m a b := idxP_any _ _
theorem cl_comm (a b : Nat) (r : List Int) : cl a b r = cl b a r := Bool.and_comm _ _
theorem clashM_comm (m : List (List Int)) (a b : Nat) : clashM m a b = clashM m b a := idxP_congr fun r _ => cl_comm a b r
theorem clB_comm (m : List (List Int)) (a b : Nat) : clB m a b = clB m b a := by rw [← clashM_clB, clashM_comm, clashM_clB]

/-- The first number from c on that meets p, tried n times. -/
def up (p : Nat → Bool) : Nat → Nat → Nat
  | 0, c => c
  | n + 1, c => if p c = true then c else up p n (c + 1)
theorem up_is {p : Nat → Bool} : ∀ (n c k : Nat), c ≤ k → k ≤ c + n → p k = true → (∀ j, c ≤ j → j < k → p j = false) → up p n c = k
  | 0, c, k, h1, h2, _, _ => by unfold up; omega
  | n + 1, c, k, h1, h2, h3, h4 => by
    unfold up
    by_cases e : c = k
    · subst e; rw [if_pos h3]
    · rw [if_neg (by rw [h4 c (Nat.le_refl _) (by omega)]; simp)]
      exact up_is n (c + 1) k (by omega) (by omega) h3 fun j hj hk => h4 j (by omega) hk
/-- The least number up to b that meets p (b itself if none does). -/
def least (p : Nat → Bool) (b : Nat) : Nat := up p b 0
theorem least_is {p : Nat → Bool} {b k : Nat} (h2 : k ≤ b) (h3 : p k = true) (h4 : ∀ j, j < k → p j = false) : least p b = k :=
  up_is b 0 k (Nat.zero_le _) (by omega) h3 fun j _ hj => h4 j hj
theorem least_ex {p : Nat → Bool} : ∀ {b : Nat}, p b = true → ∃ k, k ≤ b ∧ p k = true ∧ ∀ j, j < k → p j = false
  | b, h => by
    induction b using Nat.strongRecOn with
    | ind b ih =>
      by_cases he : ∃ j, j < b ∧ p j = true
      · obtain ⟨j, hj, hp⟩ := he
        obtain ⟨k, hk, h1, h2⟩ := ih j hj hp
        exact ⟨k, by omega, h1, h2⟩
      · refine ⟨b, Nat.le_refl _, h, fun j hj => ?_⟩
        rw [Bool.eq_false_iff]
        exact fun hp => he ⟨j, hj, hp⟩
theorem least_spec {p : Nat → Bool} {b : Nat} (h : p b = true) : least p b ≤ b ∧ p (least p b) = true ∧ ∀ j, j < least p b → p j = false := by
  obtain ⟨k, h1, h2, h3⟩ := least_ex h
  rw [least_is h1 h2 h3]
  exact ⟨h1, h2, h3⟩

/-- Colour c is not taken by a clashing column ahead of b. -/
def freeC (m : List (List Int)) (l : List Nat) (b c : Nat) : Bool := (List.range b).all fun a => !(l.getD a 0 == c && clB m a b)
def colAt (m : List (List Int)) (l : List Nat) (b : Nat) : Nat := least (freeC m l b) b
/-- The colours of the first columns. -/
def colL (m : List (List Int)) : Nat → List Nat
  | 0 => []
  | b + 1 => colL m b ++ [colAt m (colL m b) b]
/-- How many colours there are. -/
def manyC : List Nat → Nat
  | [] => 0
  | c :: l => max (c + 1) (manyC l)
theorem manyC_append (l : List Nat) (c : Nat) : manyC (l ++ [c]) = max (manyC l) (c + 1) := by
  induction l with
  | nil => simp [manyC]
  | cons x l ih => simp only [List.cons_append, manyC, ih]; omega
theorem manyC_lt {l : List Nat} {c : Nat} (h : c ∈ l) : c < manyC l := by
  induction l with
  | nil => cases h
  | cons x l ih =>
    simp only [manyC]
    rcases List.mem_cons.1 h with rfl | h
    · omega
    · have := ih h; omega
theorem colL_length (m : List (List Int)) : ∀ b, (colL m b).length = b
  | 0 => rfl
  | b + 1 => by simp [colL, colL_length m b]
theorem getD_left {α : Type} {l l' : List α} {d : α} {i : Nat} (h : i < l.length) : (l ++ l').getD i d = l.getD i d := by
  rw [List.getD_eq_getElem?_getD, List.getD_eq_getElem?_getD, List.getElem?_append_left h]
theorem getD_last {α : Type} (l : List α) (x d : α) : (l ++ [x]).getD l.length d = x := by
  rw [List.getD_eq_getElem?_getD, List.getElem?_append_right (Nat.le_refl _)]
  simp
theorem getD_in {α : Type} {l : List α} {d : α} {i : Nat} (h : i < l.length) : l.getD i d = l[i] := by
  rw [List.getD_eq_getElem?_getD, List.getElem?_eq_getElem h]
  rfl
theorem colL_le (m : List (List Int)) : ∀ b a, a < b → (colL m b).getD a 0 ≤ a
  | 0, a, h => absurd h (Nat.not_lt_zero _)
  | b + 1, a, h => by
    have hl := colL_length m b
    unfold colL
    by_cases e : a < b
    · rw [getD_left (by omega)]
      exact colL_le m b a e
    · obtain rfl : a = b := by omega
      have hla := getD_last (colL m a) (colAt m (colL m a) a) 0
      rw [hl] at hla
      rw [hla]
      have hf : freeC m (colL m a) a a = true := by
        unfold freeC
        rw [List.all_eq_true]
        intro x hx
        have hx' := List.mem_range.1 hx
        have := colL_le m a x hx'
        have hne : ((colL m a).getD x 0 == a) = false := by simp only [beq_eq_false_iff_ne]; omega
        rw [hne]
        rfl
      exact (least_spec hf).1
theorem freeC_self (m : List (List Int)) (b : Nat) : freeC m (colL m b) b b = true := by
  unfold freeC
  rw [List.all_eq_true]
  intro x hx
  have hx' := List.mem_range.1 hx
  have := colL_le m b x hx'
  have hne : ((colL m b).getD x 0 == b) = false := by simp only [beq_eq_false_iff_ne]; omega
  rw [hne]
  rfl
theorem colAt_spec (m : List (List Int)) (b : Nat) : colAt m (colL m b) b ≤ b ∧ freeC m (colL m b) b (colAt m (colL m b) b) = true ∧ ∀ c, c < colAt m (colL m b) b → freeC m (colL m b) b c = false := least_spec (freeC_self m b)
theorem colAt_is {m : List (List Int)} {b c : Nat} (h1 : freeC m (colL m b) b c = true) (h2 : ∀ j, j < c → freeC m (colL m b) b j = false) : colAt m (colL m b) b = c := by
  refine least_is ?_ h1 h2
  rcases Nat.lt_or_ge b c with h | h
  · have := h2 _ h
    rw [freeC_self] at this
    cases this
  · exact h

/-- The columns with an entry in a row. -/
def fullU (row : List Int) (n : Nat) : List Nat := (List.range n).filter fun k => nz (row.getD k (-1))
def fullL (row : List Int) : List Nat := fullU row row.length
def manyN (row : List Int) : Nat := (fullL row).length
theorem fullU_succ (row : List Int) (n : Nat) : fullU row (n + 1) = if nz (row.getD n (-1)) = true then fullU row n ++ [n] else fullU row n := by
  unfold fullU
  rw [List.range_succ, List.filter_append]
  by_cases h : nz (row.getD n (-1)) = true
  · rw [if_pos h, show [n].filter (fun k => nz (row.getD k (-1))) = [n] from List.filter_cons_of_pos h]
  · rw [if_neg h, show [n].filter (fun k => nz (row.getD k (-1))) = [] from List.filter_cons_of_neg h, List.append_nil]
theorem fullU_length (row : List Int) (n : Nat) : (fullU row n).length ≤ n := by
  have := List.length_filter_le (fun k => nz (row.getD k (-1))) (List.range n)
  rwa [List.length_range] at this
theorem manyN_le (row : List Int) : manyN row ≤ row.length := fullU_length row row.length
theorem mem_fullL {row : List Int} {k : Nat} : k ∈ fullL row ↔ k < row.length ∧ nz (row.getD k (-1)) = true := by
  unfold fullL fullU
  rw [List.mem_filter, List.mem_range]

/-- The rows of a matrix, those with more entries first. -/
def orderL (m : List (List Int)) : List Nat := ((List.range (colsN m + 1)).reverse).flatMap fun n => (List.range m.length).filter fun i => manyN (m.getD i []) == n

/-- A row fits into cells at a start. -/
def fitsB (cells : List (Int × Int)) (row : List Int) (s : Nat) : Bool := (fullL row).all fun k => decide (cells.length ≤ s + k) || decide ((cells.getD (s + k) (-1, 0)).1 < 0)
def startN (cells : List (Int × Int)) (row : List Int) : Nat := least (fitsB cells row) cells.length
theorem fits_end (cells : List (Int × Int)) (row : List Int) : fitsB cells row cells.length = true := by
  unfold fitsB
  rw [List.all_eq_true]
  intro k _
  have : cells.length ≤ cells.length + k := by omega
  simp [this]
theorem start_spec (cells : List (Int × Int)) (row : List Int) : startN cells row ≤ cells.length ∧ fitsB cells row (startN cells row) = true ∧ ∀ s, s < startN cells row → fitsB cells row s = false := least_spec (fits_end cells row)
theorem start_is {cells : List (Int × Int)} {row : List Int} {s : Nat} (h1 : fitsB cells row s = true) (h2 : ∀ j, j < s → fitsB cells row j = false) : startN cells row = s := by
  refine least_is ?_ h1 h2
  rcases Nat.lt_or_ge cells.length s with h | h
  · have := h2 _ h
    rw [fits_end] at this
    cases this
  · exact h
def padL (cells : List (Int × Int)) (n : Nat) : List (Int × Int) := cells ++ List.replicate (n - cells.length) (-1, 0)
theorem padL_length (cells : List (Int × Int)) (n : Nat) : (padL cells n).length = max cells.length n := by
  unfold padL
  rw [List.length_append, List.length_replicate]
  omega
/-- Cells with a row's entries put in at a start. -/
def putU (cells : List (Int × Int)) (row : List Int) (idx : Int) (s : Nat) (l : List Nat) : List (Int × Int) := l.foldl (fun o k => o.set (s + k) (idx, row.getD k (-1))) cells
def putL (cells : List (Int × Int)) (row : List Int) (idx : Int) : List (Int × Int) := putU (padL cells (startN cells row + row.length)) row idx (startN cells row) (fullL row)
theorem putU_append (cells : List (Int × Int)) (row : List Int) (idx : Int) (s : Nat) (l : List Nat) (k : Nat) : putU cells row idx s (l ++ [k]) = (putU cells row idx s l).set (s + k) (idx, row.getD k (-1)) := by
  unfold putU
  rw [List.foldl_append]
  rfl
theorem putU_length (cells : List (Int × Int)) (row : List Int) (idx : Int) (s : Nat) : ∀ l : List Nat, (putU cells row idx s l).length = cells.length := by
  intro l
  induction l generalizing cells with
  | nil => rfl
  | cons k l ih =>
    show (putU (cells.set (s + k) (idx, row.getD k (-1))) row idx s l).length = _
    rw [ih, List.length_set]
theorem putL_length (cells : List (Int × Int)) (row : List Int) (idx : Int) : (putL cells row idx).length = max cells.length (startN cells row + row.length) := by
  unfold putL
  rw [putU_length, padL_length]

/-- Rows laid over each other: starts and cells. -/
def layStep (m : List (List Int)) (st : List Int × List (Int × Int)) (i : Nat) : List Int × List (Int × Int) := (st.1.set i (startN st.2 (m.getD i [])), putL st.2 (m.getD i []) i)
def layU (m : List (List Int)) (l : List Nat) : List Int × List (Int × Int) := l.foldl (layStep m) (List.replicate m.length 0, [])
def layL (m : List (List Int)) : List Int × List (Int × Int) := layU m (orderL m)
theorem layU_append (m : List (List Int)) (l : List Nat) (i : Nat) : layU m (l ++ [i]) = layStep m (layU m l) i := by
  unfold layU
  rw [List.foldl_append]
  rfl

/-- The matrix of the chapter's examples. -/
def m3 : List (List Int) := [[5, -1, 7, -1], [-1, 6, -1, 8], [1, -1, -1, 2]]
example : layL m3 = ([0, 0, 4], [(0,5),(1,6),(0,7),(1,8),(2,1),(-1,0),(-1,0),(2,2)]) := by decide
example : colL m3 4 = [0,0,1,1] := by decide
end Go.Proofs.Ytliajnflmddnoaa
