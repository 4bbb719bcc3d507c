/- What the tables are, in plain words: right matrices, clashes, colours, full columns, order, places. The order of rows: the one list of the indices in which those with more entries stand first, equal ones as they came. Rows that are laid over each other, in plain words: which are right, what stands where, what a put changes. What Lay makes of a matrix, in plain words: each row stands where it begins, and nothing else does. Clique, Fold and Pick in plain words. What Pick of Fold and Look of Lay tell, and what colours and cliques are, in plain words. -/
import Derived.Test.YtecpkjhfbmchgaaG1
namespace Go.Proofs.Ytecpkjhfbmchgaa
open Go.RowKit

def thereB (e : Int) : Bool := decide (-402 ≤ e) && decide (e ≤ 10000) && e != -1
def rightB (e : Int) : Bool := e == -1 || thereB e
/-- An entry is there. -/
def nz (e : Int) : Bool := e != -1
theorem there_nz {e : Int} (h : rightB e = true) : thereB e = nz e := by
  unfold rightB thereB nz at *
  rw [Bool.eq_iff_iff]
  simp at *
  omega
def colsN (m : List (List Int)) : Nat := (m.headD []).length
def longB (r : List Int) : Bool := decide (400 < r.length)
def evenB (m : List (List Int)) (r : List Int) : Bool := r.length == colsN m && r.all rightB
/-- The first error of a matrix. -/
def chkM (m : List (List Int)) : Int := if 60 < m.length ∨ m.any longB = true then 3 else if m.length = 0 then 1 else if m.all (evenB m) = true then 0 else 1

structure RightM (m : List (List Int)) : Prop where
  rows : m.length ≤ 60
  some' : 0 < m.length
  cols : colsN m ≤ 400
  len : ∀ i (h : i < m.length), m[i].length = colsN m
  ent : ∀ i (h : i < m.length), ∀ e, e ∈ m[i] → rightB e = true
theorem chkM_ok {m : List (List Int)} (h : chkM m = 0) : RightM m := by
  unfold chkM at h
  split at h
  · cases h
  · rename_i h1
    split at h
    · cases h
    · rename_i h2
      split at h
      · rename_i h3
        rw [not_or] at h1
        obtain ⟨h1, h4⟩ := h1
        have hl : ∀ i (hi : i < m.length), m[i].length = colsN m ∧ ∀ e, e ∈ m[i] → rightB e = true := by
          intro i hi
          have := List.all_eq_true.1 h3 m[i] (List.getElem_mem hi)
          unfold evenB at this
          simp only [Bool.and_eq_true, beq_iff_eq, List.all_eq_true] at this
          exact this
        refine ⟨by omega, by omega, ?_, fun i hi => (hl i hi).1, fun i hi => (hl i hi).2⟩
        have h0 : 0 < m.length := by omega
        rw [← (hl 0 h0).1]
        have : longB m[0] = false := by
          rw [Bool.eq_false_iff]
          intro hx
          exact h4 (List.any_eq_true.2 ⟨_, List.getElem_mem h0, hx⟩)
        simpa [longB] using this
      · cases h
theorem RightM.chk {m : List (List Int)} (h : RightM m) : chkM m = 0 := by
  unfold chkM
  rw [if_neg, if_neg, if_pos]
  · rw [List.all_eq_true]
    intro r hr
    obtain ⟨i, hi, rfl⟩ := List.getElem_of_mem hr
    unfold evenB
    simp only [Bool.and_eq_true, beq_iff_eq, List.all_eq_true]
    exact ⟨h.len i hi, h.ent i hi⟩
  · have := h.some'; omega
  · rw [not_or]
    refine ⟨by have := h.rows; omega, ?_⟩
    rw [List.any_eq_true]
    rintro ⟨r, hr, h1⟩
    obtain ⟨i, hi, rfl⟩ := List.getElem_of_mem hr
    unfold longB at h1
    rw [h.len i hi] at h1
    have := h.cols
    simp at h1
    omega

/-- The first place that meets p, or -1. -/
def idxP {α : Type} (p : α → Bool) (l : List α) : Int := match l.findIdx? p with | some i => i | none => -1
theorem idxP_some {α : Type} {p : α → Bool} {l : List α} {i : Nat} (h : i < l.length) (hp : p l[i] = true) (hn : ∀ x, x ∈ l.take i → p x = false) : idxP p l = i := by
  unfold idxP
  have : l.findIdx? p = some i := by
    rw [List.findIdx?_eq_some_iff_getElem]
    refine ⟨h, hp, fun j hj => ?_⟩
    have := hn l[j] (by rw [List.mem_take_iff_getElem]; exact ⟨j, by omega, rfl⟩)
    simp [this]
  rw [this]
theorem idxP_none {α : Type} {p : α → Bool} {l : List α} (hn : ∀ x, x ∈ l → p x = false) : idxP p l = -1 := by
  unfold idxP
  have : l.findIdx? p = none := by rw [List.findIdx?_eq_none_iff]; exact fun x hx => hn x hx
  rw [this]
theorem idxP_any {α : Type} (p : α → Bool) (l : List α) : decide (0 ≤ idxP p l) = l.any p := by
  unfold idxP
  cases h : l.findIdx? p with
  | none =>
    rw [List.findIdx?_eq_none_iff] at h
    symm
    rw [show decide ((0 : Int) ≤ -1) = false from rfl, List.any_eq_false]
    intro x hx
    simp [h x hx]
  | some i =>
    obtain ⟨hi, hp, _⟩ := List.findIdx?_eq_some_iff_getElem.1 h
    have : l.any p = true := List.any_eq_true.2 ⟨_, List.getElem_mem hi, hp⟩
    rw [this]
    simp
theorem idxP_lt {α : Type} (p : α → Bool) (l : List α) : -1 ≤ idxP p l ∧ idxP p l < l.length := by
  unfold idxP
  cases h : l.findIdx? p with
  | none => exact ⟨Int.le_refl _, by have := Int.natCast_nonneg l.length; show (-1 : Int) < _; omega⟩
  | some i =>
    obtain ⟨hi, _, _⟩ := List.findIdx?_eq_some_iff_getElem.1 h
    exact ⟨by show (-1 : Int) ≤ (i : Int); omega, by show (i : Int) < _; omega⟩
theorem idxP_congr {α : Type} {p q : α → Bool} {l : List α} (h : ∀ x, x ∈ l → p x = q x) : idxP p l = idxP q l := by
  unfold idxP
  congr 1
  induction l with
  | nil => rfl
  | cons x l ih =>
    rw [List.findIdx?_cons, List.findIdx?_cons, h x (List.mem_cons_self ..), ih fun y hy => h y (List.mem_cons_of_mem _ hy)]

/-- Two columns clash in a row. -/
def cl (a b : Nat) (r : List Int) : Bool := nz (r.getD a (-1)) && nz (r.getD b (-1))
def clashM (m : List (List Int)) (a b : Nat) : Int := idxP (cl a b) m
def clB (m : List (List Int)) (a b : Nat) : Bool := m.any (cl a b)
theorem clashM_clB (m : List (List Int)) (a b : Nat) : decide (0 ≤ clashM m a b) = clB m a b := idxP_any _ _
theorem cl_comm (a b : Nat) (r : List Int) : cl a b r = cl b a r := Bool.and_comm _ _
theorem clashM_comm (m : List (List Int)) (a b : Nat) : clashM m a b = clashM m b a := idxP_congr fun r _ => cl_comm a b r
theorem clB_comm (m : List (List Int)) (a b : Nat) : clB m a b = clB m b a := by rw [← clashM_clB, clashM_comm, clashM_clB]

/-- The first number from c on that meets p, tried n times. -/
def up (p : Nat → Bool) : Nat → Nat → Nat
  | 0, c => c
  | n + 1, c => if p c = true then c else up p n (c + 1)
theorem up_is {p : Nat → Bool} : ∀ (n c k : Nat), c ≤ k → k ≤ c + n → p k = true → (∀ j, c ≤ j → j < k → p j = false) → up p n c = k
  | 0, c, k, h1, h2, _, _ => by unfold up; omega
  | n + 1, c, k, h1, h2, h3, h4 => by
    unfold up
    by_cases e : c = k
    · subst e; rw [if_pos h3]
    · rw [if_neg (by rw [h4 c (Nat.le_refl _) (by omega)]; simp)]
      exact up_is n (c + 1) k (by omega) (by omega) h3 fun j hj hk => h4 j (by omega) hk
/-- The least number up to b that meets p (b itself if none does). -/
def least (p : Nat → Bool) (b : Nat) : Nat := up p b 0
theorem least_is {p : Nat → Bool} {b k : Nat} (h2 : k ≤ b) (h3 : p k = true) (h4 : ∀ j, j < k → p j = false) : least p b = k :=
  up_is b 0 k (Nat.zero_le _) (by omega) h3 fun j _ hj => h4 j hj
theorem least_ex {p : Nat → Bool} : ∀ {b : Nat}, p b = true → ∃ k, k ≤ b ∧ p k = true ∧ ∀ j, j < k → p j = false
  | b, h => by
    induction b using Nat.strongRecOn with
    | ind b ih =>
      by_cases he : ∃ j, j < b ∧ p j = true
      · obtain ⟨j, hj, hp⟩ := he
        obtain ⟨k, hk, h1, h2⟩ := ih j hj hp
        exact ⟨k, by omega, h1, h2⟩
      · refine ⟨b, Nat.le_refl _, h, fun j hj => ?_⟩
        rw [Bool.eq_false_iff]
        exact fun hp => he ⟨j, hj, hp⟩
theorem least_spec {p : Nat → Bool} {b : Nat} (h : p b = true) : least p b ≤ b ∧ p (least p b) = true ∧ ∀ j, j < least p b → p j = false := by
  obtain ⟨k, h1, h2, h3⟩ := least_ex h
  rw [least_is h1 h2 h3]
  exact ⟨h1, h2, h3⟩

/-- Colour c is not taken by a clashing column ahead of b. -/
def freeC (m : List (List Int)) (l : List Nat) (b c : Nat) : Bool := (List.range b).all fun a => !(l.getD a 0 == c && clB m a b)
def colAt (m : List (List Int)) (l : List Nat) (b : Nat) : Nat := least (freeC m l b) b
/-- The colours of the first columns. -/
def colL (m : List (List Int)) : Nat → List Nat
  | 0 => []
  | b + 1 => colL m b ++ [colAt m (colL m b) b]
/-- How many colours there are. -/
def manyC : List Nat → Nat
  | [] => 0
  | c :: l => max (c + 1) (manyC l)
theorem manyC_append (l : List Nat) (c : Nat) : manyC (l ++ [c]) = max (manyC l) (c + 1) := by
  induction l with
  | nil => simp [manyC]
  | cons x l ih => simp only [List.cons_append, manyC, ih]; omega
theorem manyC_lt {l : List Nat} {c : Nat} (h : c ∈ l) : c < manyC l := by
  induction l with
  | nil => cases h
  | cons x l ih =>
    simp only [manyC]
    rcases List.mem_cons.1 h with rfl | h
    · omega
    · have := ih h; omega
theorem colL_length (m : List (List Int)) : ∀ b, (colL m b).length = b
  | 0 => rfl
  | b + 1 => by simp [colL, colL_length m b]
theorem getD_left {α : Type} {l l' : List α} {d : α} {i : Nat} (h : i < l.length) : (l ++ l').getD i d = l.getD i d := by
  rw [List.getD_eq_getElem?_getD, List.getD_eq_getElem?_getD, List.getElem?_append_left h]
theorem getD_last {α : Type} (l : List α) (x d : α) : (l ++ [x]).getD l.length d = x := by
  rw [List.getD_eq_getElem?_getD, List.getElem?_append_right (Nat.le_refl _)]
  simp
theorem getD_in {α : Type} {l : List α} {d : α} {i : Nat} (h : i < l.length) : l.getD i d = l[i] := by
  rw [List.getD_eq_getElem?_getD, List.getElem?_eq_getElem h]
  rfl
theorem colL_le (m : List (List Int)) : ∀ b a, a < b → (colL m b).getD a 0 ≤ a
  | 0, a, h => absurd h (Nat.not_lt_zero _)
  | b + 1, a, h => by
    have hl := colL_length m b
    unfold colL
    by_cases e : a < b
    · rw [getD_left (by omega)]
      exact colL_le m b a e
    · obtain rfl : a = b := by omega
      have hla := getD_last (colL m a) (colAt m (colL m a) a) 0
      rw [hl] at hla
      rw [hla]
      have hf : freeC m (colL m a) a a = true := by
        unfold freeC
        rw [List.all_eq_true]
        intro x hx
        have hx' := List.mem_range.1 hx
        have := colL_le m a x hx'
        have hne : ((colL m a).getD x 0 == a) = false := by simp only [beq_eq_false_iff_ne]; omega
        rw [hne]
        rfl
      exact (least_spec hf).1
theorem freeC_self (m : List (List Int)) (b : Nat) : freeC m (colL m b) b b = true := by
  unfold freeC
  rw [List.all_eq_true]
  intro x hx
  have hx' := List.mem_range.1 hx
  have := colL_le m b x hx'
  have hne : ((colL m b).getD x 0 == b) = false := by simp only [beq_eq_false_iff_ne]; omega
  rw [hne]
  rfl
theorem colAt_spec (m : List (List Int)) (b : Nat) : colAt m (colL m b) b ≤ b ∧ freeC m (colL m b) b (colAt m (colL m b) b) = true ∧ ∀ c, c < colAt m (colL m b) b → freeC m (colL m b) b c = false := least_spec (freeC_self m b)
theorem colAt_is {m : List (List Int)} {b c : Nat} (h1 : freeC m (colL m b) b c = true) (h2 : ∀ j, j < c → freeC m (colL m b) b j = false) : colAt m (colL m b) b = c := by
  refine least_is ?_ h1 h2
  rcases Nat.lt_or_ge b c with h | h
  · have := h2 _ h
    rw [freeC_self] at this
    cases this
  · exact h

/-- The columns with an entry in a row. -/
def fullU (row : List Int) (n : Nat) : List Nat := (List.range n).filter fun k => nz (row.getD k (-1))
def fullL (row : List Int) : List Nat := fullU row row.length
def manyN (row : List Int) : Nat := (fullL row).length
theorem fullU_succ (row : List Int) (n : Nat) : fullU row (n + 1) = if nz (row.getD n (-1)) = true then fullU row n ++ [n] else fullU row n := by
  unfold fullU
  rw [List.range_succ, List.filter_append]
  by_cases h : nz (row.getD n (-1)) = true
  · rw [if_pos h, show [n].filter (fun k => nz (row.getD k (-1))) = [n] from List.filter_cons_of_pos h]
  · rw [if_neg h, show [n].filter (fun k => nz (row.getD k (-1))) = [] from List.filter_cons_of_neg h, List.append_nil]
theorem fullU_length (row : List Int) (n : Nat) : (fullU row n).length ≤ n := by
  have := List.length_filter_le (fun k => nz (row.getD k (-1))) (List.range n)
  rwa [List.length_range] at this
theorem manyN_le (row : List Int) : manyN row ≤ row.length := fullU_length row row.length
theorem mem_fullL {row : List Int} {k : Nat} : k ∈ fullL row ↔ k < row.length ∧ nz (row.getD k (-1)) = true := by
  unfold fullL fullU
  rw [List.mem_filter, List.mem_range]

/-- The rows of a matrix, those with more entries first. -/
def orderL (m : List (List Int)) : List Nat := ((List.range (colsN m + 1)).reverse).flatMap fun n => (List.range m.length).filter fun i => manyN (m.getD i []) == n

/-- A row fits into cells at a start. -/
def fitsB (cells : List (Int × Int)) (row : List Int) (s : Nat) : Bool := (fullL row).all fun k => decide (cells.length ≤ s + k) || decide ((cells.getD (s + k) (-1, 0)).1 < 0)
def startN (cells : List (Int × Int)) (row : List Int) : Nat := least (fitsB cells row) cells.length
theorem fits_end (cells : List (Int × Int)) (row : List Int) : fitsB cells row cells.length = true := by
  unfold fitsB
  rw [List.all_eq_true]
  intro k _
  have : cells.length ≤ cells.length + k := by omega
  simp [this]
theorem start_spec (cells : List (Int × Int)) (row : List Int) : startN cells row ≤ cells.length ∧ fitsB cells row (startN cells row) = true ∧ ∀ s, s < startN cells row → fitsB cells row s = false := least_spec (fits_end cells row)
theorem start_is {cells : List (Int × Int)} {row : List Int} {s : Nat} (h1 : fitsB cells row s = true) (h2 : ∀ j, j < s → fitsB cells row j = false) : startN cells row = s := by
  refine least_is ?_ h1 h2
  rcases Nat.lt_or_ge cells.length s with h | h
  · have := h2 _ h
    rw [fits_end] at this
    cases this
  · exact h
def padL (cells : List (Int × Int)) (n : Nat) : List (Int × Int) := cells ++ List.replicate (n - cells.length) (-1, 0)
theorem padL_length (cells : List (Int × Int)) (n : Nat) : (padL cells n).length = max cells.length n := by
  unfold padL
  rw [List.length_append, List.length_replicate]
  omega
/-- Cells with a row's entries put in at a start. -/
def putU (cells : List (Int × Int)) (row : List Int) (idx : Int) (s : Nat) (l : List Nat) : List (Int × Int) := l.foldl (fun o k => o.set (s + k) (idx, row.getD k (-1))) cells
def putL (cells : List (Int × Int)) (row : List Int) (idx : Int) : List (Int × Int) := putU (padL cells (startN cells row + row.length)) row idx (startN cells row) (fullL row)
theorem putU_append (cells : List (Int × Int)) (row : List Int) (idx : Int) (s : Nat) (l : List Nat) (k : Nat) : putU cells row idx s (l ++ [k]) = (putU cells row idx s l).set (s + k) (idx, row.getD k (-1)) := by
  unfold putU
  rw [List.foldl_append]
  rfl
theorem putU_length (cells : List (Int × Int)) (row : List Int) (idx : Int) (s : Nat) : ∀ l : List Nat, (putU cells row idx s l).length = cells.length := by
  intro l
  induction l generalizing cells with
  | nil => rfl
  | cons k l ih =>
    show (putU (cells.set (s + k) (idx, row.getD k (-1))) row idx s l).length = _
    rw [ih, List.length_set]
theorem putL_length (cells : List (Int × Int)) (row : List Int) (idx : Int) : (putL cells row idx).length = max cells.length (startN cells row + row.length) := by
  unfold putL
  rw [putU_length, padL_length]

/-- Rows laid over each other: starts and cells. -/
def layStep (m : List (List Int)) (st : List Int × List (Int × Int)) (i : Nat) : List Int × List (Int × Int) := (st.1.set i (startN st.2 (m.getD i [])), putL st.2 (m.getD i []) i)
def layU (m : List (List Int)) (l : List Nat) : List Int × List (Int × Int) := l.foldl (layStep m) (List.replicate m.length 0, [])
def layL (m : List (List Int)) : List Int × List (Int × Int) := layU m (orderL m)
theorem layU_append (m : List (List Int)) (l : List Nat) (i : Nat) : layU m (l ++ [i]) = layStep m (layU m l) i := by
  unfold layU
  rw [List.foldl_append]
  rfl

/-- The matrix of the chapter's examples. -/
def m3 : List (List Int) := [[5, -1, 7, -1], [-1, 6, -1, 8], [1, -1, -1, 2]]
example : layL m3 = ([0, 0, 4], [(0,5),(1,6),(0,7),(1,8),(2,1),(-1,0),(-1,0),(2,2)]) := by decide
example : colL m3 4 = [0,0,1,1] := by decide

/-- Row x stands before row y. -/
def Bef (key : Nat → Nat) (x y : Nat) : Prop := key y < key x ∨ (key x = key y ∧ x < y)
def keyM (m : List (List Int)) (i : Nat) : Nat := manyN (m.getD i [])
theorem flat_pair {key : Nat → Nat} {n : Nat} : ∀ {ks : List Nat}, ks.Pairwise (fun a b => b < a) → (ks.flatMap fun k => (List.range n).filter fun i => key i == k).Pairwise (Bef key)
  | [], _ => List.Pairwise.nil
  | k :: ks, h => by
    rw [List.flatMap_cons, List.pairwise_append]
    obtain ⟨h1, h2⟩ := List.pairwise_cons.1 h
    refine ⟨?_, flat_pair h2, ?_⟩
    · have hr : (List.range n).Pairwise (· < ·) := List.pairwise_lt_range
      have hf := hr.filter (fun i => key i == k)
      refine hf.imp_of_mem ?_
      intro a b ha hb hab
      have ha' := (List.mem_filter.1 ha).2
      have hb' := (List.mem_filter.1 hb).2
      simp only [beq_iff_eq] at ha' hb'
      exact .inr ⟨by omega, hab⟩
    · intro a ha b hb
      have ha' := (List.mem_filter.1 ha).2
      simp only [beq_iff_eq] at ha'
      obtain ⟨k', hk', hb⟩ := List.mem_flatMap.1 hb
      have hb' := (List.mem_filter.1 hb).2
      simp only [beq_iff_eq] at hb'
      have := h1 k' hk'
      exact .inl (by omega)
theorem bef_irr {key : Nat → Nat} {x : Nat} : ¬ Bef key x x := by
  rintro (h | ⟨_, h⟩)
  · exact Nat.lt_irrefl _ h
  · exact Nat.lt_irrefl _ h
theorem bef_asymm {key : Nat → Nat} {x y : Nat} (h : Bef key x y) (h' : Bef key y x) : False := by
  unfold Bef at *
  omega
theorem order_pair (m : List (List Int)) : (orderL m).Pairwise (Bef (keyM m)) := by
  unfold orderL
  refine flat_pair (key := keyM m) ?_
  rw [List.pairwise_reverse]
  exact List.pairwise_lt_range
theorem order_mem {m : List (List Int)} (hm : RightM m) {i : Nat} : i ∈ orderL m ↔ i < m.length := by
  unfold orderL
  rw [List.mem_flatMap]
  constructor
  · rintro ⟨k, _, h⟩
    exact List.mem_range.1 (List.mem_filter.1 h).1
  · intro h
    refine ⟨manyN (m.getD i []), ?_, List.mem_filter.2 ⟨List.mem_range.2 h, by simp⟩⟩
    rw [List.mem_reverse, List.mem_range]
    have h1 := manyN_le (m.getD i [])
    have h2 : (m.getD i []).length = colsN m := by rw [getD_in h]; exact hm.len i h
    omega
theorem bef_nodup {key : Nat → Nat} {l : List Nat} (h : l.Pairwise (Bef key)) : l.Nodup := h.imp fun hab e => by
  subst e
  exact bef_irr hab
theorem bef_eq {key : Nat → Nat} {l l' : List Nat} (h : l.Pairwise (Bef key)) (h' : l'.Pairwise (Bef key)) (hm : ∀ i, i ∈ l ↔ i ∈ l') : l = l' := by
  have hp : l.Perm l' := (List.perm_ext_iff_of_nodup (bef_nodup h) (bef_nodup h')).2 hm
  exact hp.eq_of_pairwise (le := Bef key) (fun a b _ _ h1 h2 => (bef_asymm h1 h2).elim) h h'
theorem order_is {m : List (List Int)} (hm : RightM m) {l : List Nat} (h : l.Pairwise (Bef (keyM m))) (hl : ∀ i, i ∈ l ↔ i < m.length) : l = orderL m :=
  bef_eq h (order_pair m) fun i => by rw [hl, order_mem hm]
theorem order_perm {m : List (List Int)} (hm : RightM m) : (orderL m).Perm (List.range m.length) :=
  (List.perm_ext_iff_of_nodup (bef_nodup (order_pair m)) List.nodup_range).2 fun i => by rw [order_mem hm, List.mem_range]
theorem order_length {m : List (List Int)} (hm : RightM m) : (orderL m).length = m.length := by
  rw [(order_perm hm).length_eq, List.length_range]

/-- Under way with the sort: A, then the row i that is being put in, then B; all ahead of i are in order. -/
structure Mid (key : Nat → Nat) (i : Nat) (A B : List Nat) : Prop where
  pair : (A ++ B).Pairwise (Bef key)
  mem : ∀ x, x ∈ A ++ B ↔ x < i
  low : ∀ b, b ∈ B → key b < key i
theorem Mid.start {key : Nat → Nat} {i : Nat} {A : List Nat} (h : A.Pairwise (Bef key)) (hm : ∀ x, x ∈ A ↔ x < i) : Mid key i A [] :=
  ⟨by rw [List.append_nil]; exact h, fun x => by rw [List.append_nil]; exact hm x, fun b hb => by cases hb⟩
theorem Mid.step {key : Nat → Nat} {i x : Nat} {A B : List Nat} (h : Mid key i (A ++ [x]) B) (hx : key x < key i) : Mid key i A (x :: B) := by
  have e : A ++ x :: B = A ++ [x] ++ B := by rw [List.append_assoc]; rfl
  refine ⟨by rw [e]; exact h.pair, fun y => by rw [e]; exact h.mem y, fun b hb => ?_⟩
  rcases List.mem_cons.1 hb with rfl | hb
  · exact hx
  · exact h.low b hb
theorem Mid.stop {key : Nat → Nat} {i : Nat} {A B : List Nat} (h : Mid key i A B) (hs : ∀ A' x, A = A' ++ [x] → key i ≤ key x) : (A ++ i :: B).Pairwise (Bef key) ∧ ∀ x, x ∈ A ++ i :: B ↔ x < i + 1 := by
  obtain ⟨hA, hB, hAB⟩ := List.pairwise_append.1 h.pair
  constructor
  · rw [List.pairwise_append]
    refine ⟨hA, List.pairwise_cons.2 ⟨fun b hb => .inl (h.low b hb), hB⟩, fun a ha b hb => ?_⟩
    have hkey : key i ≤ key a := by
      rcases List.eq_nil_or_concat A with rfl | ⟨A', x, rfl⟩
      · cases ha
      · rw [List.concat_eq_append] at *
        have h1 := hs A' x rfl
        rcases List.mem_append.1 ha with ha | ha
        · have := (List.pairwise_append.1 hA).2.2 a ha x (List.mem_singleton.2 rfl)
          unfold Bef at this
          omega
        · rw [List.mem_singleton.1 ha]; exact h1
    rcases List.mem_cons.1 hb with rfl | hb
    · have ha' := (h.mem a).1 (List.mem_append.2 (.inl ha))
      unfold Bef
      omega
    · exact hAB a ha b hb
  · intro x
    have := h.mem x
    rw [List.mem_append] at this
    rw [List.mem_append, List.mem_cons]
    constructor
    · rintro (h | h | h)
      · exact Nat.lt_succ_of_lt (this.1 (.inl h))
      · omega
      · exact Nat.lt_succ_of_lt (this.1 (.inr h))
    · intro h
      by_cases e : x = i
      · exact .inr (.inl e)
      · rcases this.2 (by omega) with h | h
        · exact .inl h
        · exact .inr (.inr h)

/-- Rows laid over each other: columns, starts, cells. -/
structure Ld where
  cols : Int
  starts : List Int
  cells : List (Int × Int)
def emptyL : Ld := ⟨0, [], []⟩
def Ld.st (L : Ld) (i : Nat) : Int := L.starts.getD i (-1)
def Ld.cell (L : Ld) (i : Nat) : Int × Int := L.cells.getD i (-1, 0)
def badS (n : Int) (k : Nat) (s : Int) : Bool := decide (s < -1) || (decide (0 ≤ s) && decide ((k : Int) - n < s))
def cellOk (L : Ld) (i : Nat) (p : Int × Int) : Bool := (p == (-1, 0)) || ((decide (0 ≤ p.1) && decide (p.1 < L.starts.length) && thereB p.2) && (decide (0 ≤ L.st p.1.toNat) && decide (L.st p.1.toNat ≤ i) && decide ((i : Int) < L.st p.1.toNat + L.cols)))
def cellsOk (L : Ld) (k : Nat) : Bool := (List.range k).all fun i => cellOk L i (L.cell i)
/-- The first error of rows laid over each other. -/
def chkL (L : Ld) : Int := if 60 < L.starts.length ∨ 30000 < L.cells.length then 3 else if ¬ (0 ≤ L.cols ∧ L.cols ≤ 400) then 1 else if L.starts.any (badS L.cols L.cells.length) = true then 1 else if cellsOk L L.cells.length = true then 0 else 1

structure RightL (L : Ld) : Prop where
  rows : L.starts.length ≤ 60
  room : L.cells.length ≤ 30000
  col0 : 0 ≤ L.cols
  col1 : L.cols ≤ 400
  start : ∀ i, i < L.starts.length → L.st i = -1 ∨ (0 ≤ L.st i ∧ L.st i + L.cols ≤ L.cells.length)
  own : ∀ i, i < L.cells.length → L.cell i = (-1, 0) ∨ ∃ r : Nat, (L.cell i).1 = r ∧ r < L.starts.length ∧ thereB (L.cell i).2 = true ∧ 0 ≤ L.st r ∧ L.st r ≤ i ∧ (i : Int) < L.st r + L.cols
theorem badS_no {n : Int} {k : Nat} {s : Int} (h : badS n k s = false) : s = -1 ∨ (0 ≤ s ∧ s + n ≤ k) := by
  unfold badS at h
  simp at h
  omega
theorem badS_of {n : Int} {k : Nat} {s : Int} (h : s = -1 ∨ (0 ≤ s ∧ s + n ≤ k)) : badS n k s = false := by
  unfold badS
  simp
  omega
theorem cellOk_iff {L : Ld} {i : Nat} {p : Int × Int} : cellOk L i p = true ↔ p = (-1, 0) ∨ ∃ r : Nat, p.1 = r ∧ r < L.starts.length ∧ thereB p.2 = true ∧ 0 ≤ L.st r ∧ L.st r ≤ i ∧ (i : Int) < L.st r + L.cols := by
  unfold cellOk
  simp only [Bool.or_eq_true, Bool.and_eq_true, decide_eq_true_eq, beq_iff_eq]
  constructor
  · rintro (h | ⟨⟨⟨h1, h2⟩, h3⟩, ⟨h4, h5⟩, h6⟩)
    · exact .inl h
    · exact .inr ⟨p.1.toNat, by omega, by omega, h3, h4, h5, h6⟩
  · rintro (h | ⟨r, h1, h2, h3, h4, h5, h6⟩)
    · exact .inl h
    · have e : p.1.toNat = r := by omega
      rw [e]
      exact .inr ⟨⟨⟨by omega, by omega⟩, h3⟩, ⟨h4, h5⟩, h6⟩
theorem chkL_ok {L : Ld} (h : chkL L = 0) : RightL L := by
  unfold chkL at h
  split at h
  · cases h
  · rename_i h1
    split at h
    · cases h
    · rename_i h2
      split at h
      · cases h
      · rename_i h3
        split at h
        · rename_i h4
          rw [not_or] at h1
          rw [Decidable.not_not] at h2
          refine ⟨by omega, by omega, h2.1, h2.2, fun i hi => ?_, fun i hi => ?_⟩
          · refine badS_no ?_
            rw [Bool.eq_false_iff]
            intro hb
            refine h3 (List.any_eq_true.2 ⟨_, List.getElem_mem hi, ?_⟩)
            unfold Ld.st at hb
            rw [getD_in hi] at hb
            exact hb
          · exact cellOk_iff.1 (List.all_eq_true.1 h4 i (List.mem_range.2 hi))
        · cases h
theorem RightL.chk {L : Ld} (h : RightL L) : chkL L = 0 := by
  unfold chkL
  rw [if_neg (by have := h.rows; have := h.room; omega), if_neg (by have := h.col0; have := h.col1; omega), if_neg, if_pos]
  · unfold cellsOk
    rw [List.all_eq_true]
    intro i hi
    exact cellOk_iff.2 (h.own i (List.mem_range.1 hi))
  · rw [List.any_eq_true]
    rintro ⟨s, hs, hb⟩
    obtain ⟨i, hi, rfl⟩ := List.getElem_of_mem hs
    have := badS_of (h.start i hi)
    unfold Ld.st at this
    rw [getD_in hi, hb] at this
    cases this

/-- A cell belongs to a row. -/
def occ (C : List (Int × Int)) (p : Nat) : Bool := decide (0 ≤ (C.getD p (-1, 0)).1)
theorem occ_out {C : List (Int × Int)} {p : Nat} (h : C.length ≤ p) : occ C p = false := by
  unfold occ
  rw [List.getD_eq_getElem?_getD, List.getElem?_eq_none h]
  rfl
theorem fits_occ (C : List (Int × Int)) (row : List Int) (s : Nat) : fitsB C row s = (fullL row).all fun k => !occ C (s + k) := by
  unfold fitsB
  congr 1
  funext k
  by_cases h : C.length ≤ s + k
  · rw [occ_out h]
    simp [h]
  · unfold occ
    rw [Bool.eq_iff_iff]
    simp [h]
theorem nz_lt {row : List Int} {k : Nat} (h : nz (row.getD k (-1)) = true) : k < row.length := by
  rcases Nat.lt_or_ge k row.length with h' | h'
  · exact h'
  · rw [List.getD_eq_getElem?_getD, List.getElem?_eq_none h'] at h
    cases h
theorem mem_full {row : List Int} {k : Nat} : k ∈ fullL row ↔ nz (row.getD k (-1)) = true := by
  rw [mem_fullL]
  exact ⟨fun h => h.2, fun h => ⟨nz_lt h, h⟩⟩
theorem fits_iff {C : List (Int × Int)} {row : List Int} {s : Nat} : fitsB C row s = true ↔ ∀ k, nz (row.getD k (-1)) = true → occ C (s + k) = false := by
  rw [fits_occ, List.all_eq_true]
  constructor
  · intro h k hk
    simpa using h k (mem_full.2 hk)
  · intro h k hk
    simpa using h k (mem_full.1 hk)
/-- Where a row begins hangs on which cells belong to rows alone. -/
theorem start_congr {C D : List (Int × Int)} {row : List Int} (h : ∀ p, occ C p = occ D p) : startN C row = startN D row := by
  have hf : ∀ s, fitsB C row s = fitsB D row s := fun s => by
    rw [fits_occ, fits_occ]
    congr 1
    funext k
    rw [h]
  obtain ⟨_, h2, h3⟩ := start_spec D row
  exact start_is (by rw [hf]; exact h2) fun j hj => by rw [hf]; exact h3 j hj
theorem start_free {C : List (Int × Int)} {row : List Int} {k : Nat} (h : nz (row.getD k (-1)) = true) : occ C (startN C row + k) = false := fits_iff.1 (start_spec C row).2.1 k h

theorem pad_at (C : List (Int × Int)) (n p : Nat) : (padL C n).getD p (-1, 0) = C.getD p (-1, 0) := by
  unfold padL
  rw [List.getD_eq_getElem?_getD, List.getD_eq_getElem?_getD, List.getElem?_append]
  by_cases h : p < C.length
  · rw [if_pos h]
  · rw [if_neg h, List.getElem?_eq_none (Nat.le_of_not_lt h), List.getElem?_replicate]
    split <;> rfl
theorem set_at {α : Type} (l : List α) (i p : Nat) (x d : α) (hi : i < l.length) : (l.set i x).getD p d = if i = p then x else l.getD p d := by
  rw [List.getD_eq_getElem?_getD, List.getD_eq_getElem?_getD, List.getElem?_set]
  by_cases h : i = p
  · subst h
    simp [hi]
  · simp [h]
theorem putU_at (row : List Int) (idx : Int) (s p : Nat) : ∀ (l : List Nat) (C : List (Int × Int)), (∀ k, k ∈ l → s + k < C.length) →
    (putU C row idx s l).getD p (-1, 0) = if s ≤ p ∧ p - s ∈ l then (idx, row.getD (p - s) (-1)) else C.getD p (-1, 0)
  | [], C, _ => by rw [if_neg (by simp)]; rfl
  | k :: l, C, h => by
    show (putU (C.set (s + k) (idx, row.getD k (-1))) row idx s l).getD p (-1, 0) = _
    rw [putU_at row idx s p l _ (fun k' hk => by rw [List.length_set]; exact h k' (List.mem_cons_of_mem _ hk))]
    by_cases h1 : s ≤ p ∧ p - s ∈ l
    · rw [if_pos h1, if_pos ⟨h1.1, List.mem_cons_of_mem _ h1.2⟩]
    · rw [if_neg h1, set_at _ _ _ _ _ (h k (List.mem_cons_self ..))]
      by_cases e : s + k = p
      · subst e
        rw [if_pos rfl, if_pos ⟨by omega, by rw [show s + k - s = k from by omega]; exact List.mem_cons_self ..⟩, show s + k - s = k from by omega]
      · rw [if_neg e, if_neg]
        rintro ⟨h2, h3⟩
        rcases List.mem_cons.1 h3 with h3 | h3
        · omega
        · exact h1 ⟨h2, h3⟩
/-- What stands where after a row was put in. -/
theorem put_at (C : List (Int × Int)) (row : List Int) (idx : Int) (p : Nat) :
    (putL C row idx).getD p (-1, 0) = if startN C row ≤ p ∧ nz (row.getD (p - startN C row) (-1)) = true then (idx, row.getD (p - startN C row) (-1)) else C.getD p (-1, 0) := by
  unfold putL
  rw [putU_at, pad_at]
  · simp only [mem_full]
  · intro k hk
    have := (mem_fullL.1 hk).1
    rw [padL_length]
    omega
theorem put_occ (C : List (Int × Int)) (row : List Int) (idx : Nat) (p : Nat) : occ (putL C row idx) p = ((decide (startN C row ≤ p) && nz (row.getD (p - startN C row) (-1))) || occ C p) := by
  unfold occ
  rw [put_at]
  by_cases h : startN C row ≤ p ∧ nz (row.getD (p - startN C row) (-1)) = true
  · rw [if_pos h, h.2, decide_eq_true h.1]
    simp
  · rw [if_neg h]
    by_cases h1 : startN C row ≤ p
    · have : nz (row.getD (p - startN C row) (-1)) = false := by
        rw [Bool.eq_false_iff]
        exact fun h2 => h ⟨h1, h2⟩
      rw [this]
      simp
    · simp [h1]
theorem put_old {C : List (Int × Int)} {row : List Int} {idx : Int} {p : Nat} (h : occ C p = true) : (putL C row idx).getD p (-1, 0) = C.getD p (-1, 0) := by
  rw [put_at, if_neg]
  rintro ⟨h1, h2⟩
  have := start_free (C := C) h2
  rw [show startN C row + (p - startN C row) = p from by omega, h] at this
  cases this
theorem put_new {C : List (Int × Int)} {row : List Int} {idx : Int} {k : Nat} (h : nz (row.getD k (-1)) = true) : (putL C row idx).getD (startN C row + k) (-1, 0) = (idx, row.getD k (-1)) := by
  rw [put_at, show startN C row + k - startN C row = k from by omega, if_pos ⟨by omega, h⟩]

/-- The entry of a row in a column. -/
def lookN (L : Ld) (r c : Nat) : Int := if (L.cell ((L.st r).toNat + c)).1 = r then (L.cell ((L.st r).toNat + c)).2 else -1
def backE (L : Ld) (r c : Nat) : Int := if L.st r < 0 then -1 else lookN L r c
def backM (L : Ld) : List (List Int) := (List.range L.starts.length).map fun r => (List.range L.cols.toNat).map fun c => backE L r c
/-- The error unless there is a row, which was not taken away. -/
def hasE (L : Ld) (r : Int) : Int := if chkL L = 0 then (if 0 ≤ r ∧ r < L.starts.length ∧ 0 ≤ L.st r.toNat then 0 else 5) else chkL L
def lookE (L : Ld) (r c : Int) : Int := if hasE L r = 0 then (if 0 ≤ c ∧ c < L.cols then 0 else 5) else hasE L r
def lookV (L : Ld) (r c : Int) : Int := if lookE L r c = 0 then lookN L r.toNat c.toNat else 0
def backV (L : Ld) : List (List Int) := if chkL L = 0 then backM L else []
def noRow (p : Int × Int) : Bool := p.1 == -1
def spareV (L : Ld) : Int := if chkL L = 0 then (L.cells.countP noRow : Nat) else 0
def takC (r : Int) (p : Int × Int) : Int × Int := if p.1 = r then (-1, 0) else p
def takV (L : Ld) (r : Int) : Ld := if hasE L r = 0 then ⟨L.cols, L.starts.set r.toNat (-1), L.cells.map (takC r)⟩ else emptyL
def insE (L : Ld) (row : List Int) : Int := if chkL L = 0 then (if (row.length : Int) = L.cols ∧ row.all rightB = true then (if 60 ≤ L.starts.length then 3 else if 30000 < (putL L.cells row L.starts.length).length then 14 else 0) else 1) else chkL L
def insV (L : Ld) (row : List Int) : Ld := if insE L row = 0 then ⟨L.cols, L.starts ++ [(startN L.cells row : Int)], putL L.cells row L.starts.length⟩ else emptyL
def insAt (L : Ld) (row : List Int) : Int := if insE L row = 0 then (L.starts.length : Int) else 0

theorem RightL.getD {L : Ld} (h : RightL L) (i : Nat) : L.cell i = (-1, 0) ∨ ∃ r : Nat, (L.cell i).1 = r ∧ r < L.starts.length ∧ thereB (L.cell i).2 = true ∧ 0 ≤ L.st r ∧ L.st r ≤ i ∧ (i : Int) < L.st r + L.cols := by
  rcases Nat.lt_or_ge i L.cells.length with hi | hi
  · exact h.own i hi
  · refine .inl ?_
    unfold Ld.cell
    rw [List.getD_eq_getElem?_getD, List.getElem?_eq_none hi]
    rfl
theorem RightL.occ_none {L : Ld} (h : RightL L) {i : Nat} (ho : occ L.cells i = false) : L.cell i = (-1, 0) := by
  rcases h.getD i with e | ⟨r, e, _⟩
  · exact e
  · unfold occ at ho
    unfold Ld.cell at e
    rw [e] at ho
    simp at ho

/-- The entry of a row in a column, -1 where there is none. -/
def ent (m : List (List Int)) (i k : Nat) : Int := (m.getD i []).getD k (-1)
def sumM (m : List (List Int)) (l : List Nat) : Nat := (l.map fun i => manyN (m.getD i [])).sum
/-- The rows l are laid. -/
structure LI (m : List (List Int)) (l : List Nat) (S : List Int) (C : List (Int × Int)) : Prop where
  len : S.length = m.length
  st : ∀ i, i ∈ l → ∃ s : Nat, S.getD i (-1) = s ∧ s + colsN m ≤ C.length ∧ ∀ k, nz (ent m i k) = true → C.getD (s + k) (-1, 0) = ((i : Int), ent m i k)
  cell : ∀ p, C.getD p (-1, 0) = (-1, 0) ∨ ∃ i, i ∈ l ∧ ∃ s k : Nat, S.getD i (-1) = s ∧ p = s + k ∧ nz (ent m i k) = true ∧ C.getD p (-1, 0) = ((i : Int), ent m i k)
  none : l = [] → C = []
  top : l ≠ [] → ∃ i, i ∈ l ∧ S.getD i (-1) + colsN m = C.length
  cnt : C.countP noRow + sumM m l = C.length
  size : C.length ≤ l.length * colsN m

theorem count_set {α : Type} (p : α → Bool) : ∀ (l : List α) (i : Nat) (x : α) (h : i < l.length), p l[i] = true → p x = false → (l.set i x).countP p + 1 = l.countP p
  | a :: l, 0, x, _, h1, h2 => by
    rw [List.set_cons_zero, List.countP_cons, List.countP_cons]
    simp at h1
    simp [h1, h2]
  | a :: l, i + 1, x, h, h1, h2 => by
    rw [List.set_cons_succ, List.countP_cons, List.countP_cons]
    have := count_set p l i x (by simpa using h) (by simpa using h1) h2
    omega
theorem putU_count (row : List Int) (idx : Nat) (s : Nat) : ∀ (l : List Nat) (C : List (Int × Int)), l.Nodup → (∀ k, k ∈ l → s + k < C.length ∧ noRow (C.getD (s + k) (-1, 0)) = true) →
    (putU C row idx s l).countP noRow + l.length = C.countP noRow
  | [], C, _, _ => rfl
  | k :: l, C, hn, h => by
    show (putU (C.set (s + k) ((idx : Int), row.getD k (-1))) row idx s l).countP noRow + (l.length + 1) = _
    obtain ⟨hk, hn'⟩ := List.nodup_cons.1 hn
    obtain ⟨h1, h2⟩ := h k (List.mem_cons_self ..)
    have ih := putU_count row idx s l (C.set (s + k) ((idx : Int), row.getD k (-1))) hn' (fun k' hk' => by
      obtain ⟨h3, h4⟩ := h k' (List.mem_cons_of_mem _ hk')
      refine ⟨by rw [List.length_set]; exact h3, ?_⟩
      rw [set_at _ _ _ _ _ h1, if_neg]
      · exact h4
      · intro e
        obtain rfl : k = k' := by omega
        exact hk hk')
    rw [getD_in h1] at h2
    have := count_set noRow C (s + k) ((idx : Int), row.getD k (-1)) h1 h2 (by unfold noRow; simp)
    omega
theorem pad_count (C : List (Int × Int)) (n : Nat) : (padL C n).countP noRow = C.countP noRow + (n - C.length) := by
  unfold padL
  rw [List.countP_append, List.countP_replicate, if_pos (show noRow (-1, 0) = true from rfl)]
theorem fullL_nodup (row : List Int) : (fullL row).Nodup := by
  unfold fullL fullU
  exact List.nodup_range.filter _
/-- As many cells are taken as the row has entries. -/
theorem put_count {C : List (Int × Int)} {row : List Int} {idx : Nat} (h : ∀ p, occ C p = false → C.getD p (-1, 0) = (-1, 0)) :
    (putL C row idx).countP noRow + manyN row + C.length = C.countP noRow + (putL C row idx).length := by
  have h1 : (putL C row idx).countP noRow + manyN row = (padL C (startN C row + row.length)).countP noRow := by
    unfold putL manyN
    refine putU_count row idx _ _ _ (fullL_nodup row) fun k hk => ⟨?_, ?_⟩
    · have := (mem_fullL.1 hk).1
      rw [padL_length]
      omega
    · rw [pad_at, h _ (start_free (mem_full.1 hk))]
      rfl
  rw [h1, pad_count, putL_length]
  omega
theorem full_some {row : List Int} {k : Nat} (h : nz (row.getD k (-1)) = true) : k < row.length := nz_lt h
theorem LI.occ_none {m : List (List Int)} {l : List Nat} {S : List Int} {C : List (Int × Int)} (h : LI m l S C) {p : Nat} (ho : occ C p = false) : C.getD p (-1, 0) = (-1, 0) := by
  rcases h.cell p with e | ⟨i, _, s, k, _, _, _, e⟩
  · exact e
  · unfold occ at ho
    rw [e] at ho
    simp at ho
theorem LI.start (m : List (List Int)) : LI m [] (List.replicate m.length 0) [] :=
  ⟨by simp, fun i hi => (by cases hi), fun p => .inl (by simp [List.getD]), fun _ => rfl, fun h => absurd rfl h, rfl, Nat.zero_le _⟩
theorem LI.step {m : List (List Int)} (hm : RightM m) {l : List Nat} {S : List Int} {C : List (Int × Int)} (h : LI m l S C) {i : Nat} (hi : i < m.length) (hn : i ∉ l) :
    LI m (l ++ [i]) (S.set i (startN C (m.getD i []))) (putL C (m.getD i []) i) := by
  have hlen : (m.getD i []).length = colsN m := by rw [getD_in hi]; exact hm.len i hi
  have hpl := putL_length C (m.getD i []) i
  rw [hlen] at hpl
  have hsp := (start_spec C (m.getD i [])).1
  have hS : ∀ j, (S.set i (startN C (m.getD i []) : Int)).getD j (-1) = if i = j then (startN C (m.getD i []) : Int) else S.getD j (-1) := fun j => set_at _ _ _ _ _ (by rw [h.len]; exact hi)
  refine ⟨by rw [List.length_set]; exact h.len, fun j hj => ?_, fun p => ?_, fun e => ?_, fun _ => ?_, ?_, ?_⟩
  · rw [hS]
    rcases List.mem_append.1 hj with hj | hj
    · have hne : i ≠ j := fun e => hn (e ▸ hj)
      obtain ⟨s, h1, h2, h3⟩ := h.st j hj
      refine ⟨s, by rw [if_neg hne]; exact h1, by omega, fun k hk => ?_⟩
      rw [put_old]
      · exact h3 k hk
      · unfold occ
        rw [h3 k hk]
        simp
    · obtain rfl := List.mem_singleton.1 hj
      refine ⟨_, by rw [if_pos rfl], by omega, fun k hk => ?_⟩
      exact put_new hk
  · rw [put_at]
    by_cases hc : startN C (m.getD i []) ≤ p ∧ nz ((m.getD i []).getD (p - startN C (m.getD i [])) (-1)) = true
    · rw [if_pos hc]
      exact .inr ⟨i, by simp, startN C (m.getD i []), p - startN C (m.getD i []), by rw [hS, if_pos rfl], by omega, hc.2, rfl⟩
    · rw [if_neg hc]
      rcases h.cell p with e | ⟨j, hj, s, k, h1, h2, h3, h4⟩
      · exact .inl e
      · have hne : i ≠ j := fun e => hn (e ▸ hj)
        exact .inr ⟨j, by simp [hj], s, k, by rw [hS, if_neg hne]; exact h1, h2, h3, h4⟩
  · simp at e
  · by_cases hl : l = []
    · have hc := h.none hl
      refine ⟨i, by simp, ?_⟩
      rw [hS, if_pos rfl, hpl, hc]
      rw [hc] at hsp
      simp at hsp ⊢
    · obtain ⟨j, hj, h1⟩ := h.top hl
      have hne : i ≠ j := fun e => hn (e ▸ hj)
      by_cases hc : startN C (m.getD i []) + colsN m ≤ C.length
      · refine ⟨j, by simp [hj], ?_⟩
        rw [hS, if_neg hne, hpl]
        omega
      · refine ⟨i, by simp, ?_⟩
        rw [hS, if_pos rfl, hpl]
        omega
  · have hcn := put_count (row := m.getD i []) (idx := i) (fun p => h.occ_none (p := p))
    have h0 := h.cnt
    unfold sumM at *
    rw [List.map_append, List.sum_append, show (List.map (fun i => manyN (m.getD i [])) [i]).sum = manyN (m.getD i []) from by simp]
    omega
  · rw [hpl, List.length_append, Nat.add_mul, show [i].length * colsN m = colsN m from by simp]
    have := h.size
    omega
theorem lay_from {m : List (List Int)} (hm : RightM m) : ∀ (l2 l1 : List Nat) (st : List Int × List (Int × Int)), LI m l1 st.1 st.2 → (l1 ++ l2).Nodup → (∀ i, i ∈ l2 → i < m.length) →
    LI m (l1 ++ l2) (l2.foldl (layStep m) st).1 (l2.foldl (layStep m) st).2
  | [], l1, st, h, _, _ => by rw [List.append_nil]; exact h
  | i :: l2, l1, st, h, hn, hl => by
    have e : l1 ++ i :: l2 = (l1 ++ [i]) ++ l2 := by simp
    rw [e] at hn ⊢
    refine lay_from hm l2 (l1 ++ [i]) (layStep m st i) (h.step hm (hl i (List.mem_cons_self ..)) ?_) hn fun j hj => hl j (List.mem_cons_of_mem _ hj)
    have := (List.nodup_append.1 (List.nodup_append.1 hn).1).2.2
    intro hi
    exact this i hi i (by simp) rfl
theorem layU_inv {m : List (List Int)} (hm : RightM m) {l : List Nat} (hn : l.Nodup) (hl : ∀ i, i ∈ l → i < m.length) : LI m l (layU m l).1 (layU m l).2 := by
  have := lay_from hm l [] (List.replicate m.length 0, []) (LI.start m) (by simpa using hn) hl
  rw [List.nil_append] at this
  exact this
theorem lay_inv {m : List (List Int)} (hm : RightM m) : LI m (orderL m) (layL m).1 (layL m).2 :=
  layU_inv hm (bef_nodup (order_pair m)) fun _ hi => (order_mem hm).1 hi

/-- Rows that are laid. -/
def layR (m : List (List Int)) : Ld := ⟨colsN m, (layL m).1, (layL m).2⟩
def layV (m : List (List Int)) : Ld := if chkM m = 0 then layR m else emptyL
theorem ent_right {m : List (List Int)} (hm : RightM m) {i k : Nat} (hi : i < m.length) (h : nz (ent m i k) = true) : k < colsN m ∧ thereB (ent m i k) = true := by
  have hlen : (m.getD i []).length = colsN m := by rw [getD_in hi]; exact hm.len i hi
  have hk := nz_lt h
  rw [hlen] at hk
  refine ⟨hk, ?_⟩
  unfold ent at h ⊢
  rw [there_nz]
  · exact h
  · rw [getD_in (by rw [hlen]; exact hk)]
    refine hm.ent i hi _ ?_
    rw [← getD_in (d := []) hi]
    exact List.getElem_mem _
theorem lay_st {m : List (List Int)} (hm : RightM m) {i : Nat} (hi : i < m.length) : ∃ s : Nat, (layR m).st i = s ∧ s + colsN m ≤ (layR m).cells.length ∧ ∀ k, nz (ent m i k) = true → (layR m).cell (s + k) = ((i : Int), ent m i k) :=
  (lay_inv hm).st i ((order_mem hm).2 hi)
theorem lay_right {m : List (List Int)} (hm : RightM m) : RightL (layR m) := by
  have h := lay_inv hm
  have hsz := h.size
  rw [order_length hm] at hsz
  refine ⟨?_, ?_, ?_, ?_, fun i hi => ?_, fun p _ => ?_⟩
  · show (layL m).1.length ≤ 60
    rw [h.len]
    exact hm.rows
  · show (layL m).2.length ≤ 30000
    have : m.length * colsN m ≤ 60 * 400 := Nat.mul_le_mul hm.rows hm.cols
    omega
  · show (0 : Int) ≤ (colsN m : Int)
    omega
  · show (colsN m : Int) ≤ 400
    have := hm.cols
    omega
  · have hi' : i < m.length := by rw [← h.len]; exact hi
    obtain ⟨s, h1, h2, _⟩ := lay_st hm hi'
    refine .inr ⟨by omega, ?_⟩
    show _ + (colsN m : Int) ≤ _
    omega
  · rcases h.cell p with e | ⟨i, hi, s, k, h1, h2, h3, h4⟩
    · exact .inl e
    · have hi' := (order_mem hm).1 hi
      obtain ⟨h5, h6⟩ := ent_right hm hi' h3
      have h7 : (layR m).cell p = ((i : Int), ent m i k) := h4
      have h8 : (layR m).st i = s := h1
      refine .inr ⟨i, by rw [h7], ?_, by rw [h7]; exact h6, by omega, by omega, ?_⟩
      · show i < (layL m).1.length
        rw [h.len]
        exact hi'
      · show (p : Int) < _ + (colsN m : Int)
        omega
theorem lay_look {m : List (List Int)} (hm : RightM m) {i : Nat} (hi : i < m.length) (k : Nat) : lookN (layR m) i k = ent m i k := by
  obtain ⟨s, h1, h2, h3⟩ := lay_st hm hi
  unfold lookN
  rw [h1, Int.toNat_natCast]
  cases hn : nz (ent m i k) with
  | true =>
    rw [h3 k hn, if_pos rfl]
  | false =>
    have he : ent m i k = -1 := by simpa [nz] using hn
    rw [he]
    split
    · rename_i hc
      rcases (lay_inv hm).cell (s + k) with e | ⟨j, hj, s', k', h4, h5, h6, h7⟩
      · have e' : (layR m).cell (s + k) = (-1, 0) := e
        rw [e'] at hc
        simp at hc
      · have e' : (layR m).cell (s + k) = ((j : Int), ent m j k') := h7
        rw [e'] at hc
        obtain rfl : j = i := by simp at hc; omega
        have e4 : (layR m).st j = s' := h4
        obtain rfl : k' = k := by omega
        rw [hn] at h6
        cases h6
    · rfl
theorem lay_back {m : List (List Int)} (hm : RightM m) : backM (layR m) = m := by
  have h := lay_inv hm
  have hsl : (layR m).starts.length = m.length := h.len
  unfold backM
  refine List.ext_getElem (by rw [List.length_map, List.length_range, hsl]) fun i h1 h2 => ?_
  rw [List.getElem_map, List.getElem_range]
  refine List.ext_getElem ?_ fun k h3 h4 => ?_
  · rw [List.length_map, List.length_range, hm.len i h2]
    show ((colsN m : Int)).toNat = _
    omega
  · rw [List.getElem_map, List.getElem_range]
    unfold backE
    obtain ⟨s, h5, _⟩ := lay_st hm h2
    rw [if_neg (by omega), lay_look hm h2]
    unfold ent
    have e : m.getD i [] = m[i] := getD_in h2
    rw [e, getD_in h4]
theorem lay_spare {m : List (List Int)} (hm : RightM m) : (layR m).cells.countP noRow + sumM m (List.range m.length) = (layR m).cells.length := by
  have h := (lay_inv hm).cnt
  have e : sumM m (orderL m) = sumM m (List.range m.length) := by
    unfold sumM
    exact ((order_perm hm).map _).sum_nat
  rw [← e]
  exact h
theorem lay_top {m : List (List Int)} (hm : RightM m) : (∀ i, i < m.length → (layR m).st i + colsN m ≤ (layR m).cells.length) ∧ ∃ i, i < m.length ∧ (layR m).st i + colsN m = (layR m).cells.length := by
  constructor
  · intro i hi
    obtain ⟨s, h1, h2, _⟩ := lay_st hm hi
    omega
  · have hne : orderL m ≠ [] := by
      intro e
      have := order_length hm
      rw [e] at this
      have := hm.some'
      simp at *
      omega
    obtain ⟨i, hi, h⟩ := (lay_inv hm).top hne
    exact ⟨i, (order_mem hm).1 hi, h⟩

/-- The row with the most entries, the first one of these. -/
def bestR (m : List (List Int)) : Nat := (orderL m).getD 0 0
def cliqueL (m : List (List Int)) : List Nat := fullL (m.getD (bestR m) [])
def cliqueV (m : List (List Int)) : List Int := if chkM m = 0 then (cliqueL m).map Int.ofNat else []
/-- A folded row, the entries of the columns k put in. -/
def foldU (l : List Nat) (n : Nat) (row : List Int) (ks : List Nat) : List (Int × Int) := ks.foldl (fun o k => o.set (l.getD k 0) ((k : Int), row.getD k (-1))) (List.replicate n (-1, -1))
def foldRow (l : List Nat) (n : Nat) (row : List Int) : List (Int × Int) := foldU l n row (fullL row)
theorem foldU_append (l : List Nat) (n : Nat) (row : List Int) (ks : List Nat) (k : Nat) : foldU l n row (ks ++ [k]) = (foldU l n row ks).set (l.getD k 0) ((k : Int), row.getD k (-1)) := by
  unfold foldU
  rw [List.foldl_append]
  rfl
theorem foldU_length (l : List Nat) (n : Nat) (row : List Int) : ∀ ks : List Nat, (foldU l n row ks).length = n := by
  intro ks
  unfold foldU
  have : ∀ (ks : List Nat) (o : List (Int × Int)), (ks.foldl (fun o k => o.set (l.getD k 0) ((k : Int), row.getD k (-1))) o).length = o.length := by
    intro ks
    induction ks with
    | nil => intro o; rfl
    | cons k ks ih => intro o; rw [List.foldl_cons, ih, List.length_set]
  rw [this, List.length_replicate]
def foldG (m : List (List Int)) : List (List (Int × Int)) := m.map (foldRow (colL m (colsN m)) (manyC (colL m (colsN m))))
def foldC (m : List (List Int)) : List Int := if chkM m = 0 then (colL m (colsN m)).map Int.ofNat else []
def foldV (m : List (List Int)) : List (List (Int × Int)) := if chkM m = 0 then foldG m else []
theorem col_lt {m : List (List Int)} {k n : Nat} (h : k < n) : (colL m n).getD k 0 < manyC (colL m n) := by
  refine manyC_lt ?_
  rw [getD_in (by rw [colL_length]; exact h)]
  exact List.getElem_mem _

/-- Pick's error, and its entry. -/
def inRC (C : List Int) (R : List (List (Int × Int))) (r c : Int) : Bool := (decide (0 ≤ r) && decide (r < R.length)) && (decide (0 ≤ c) && decide (c < C.length))
def pkK (C : List Int) (c : Int) : Int := C.getD c.toNat 0
def pkR (R : List (List (Int × Int))) (r : Int) : List (Int × Int) := R.getD r.toNat []
def pkO (C : List Int) (R : List (List (Int × Int))) (r c : Int) : Int × Int := (pkR R r).getD (pkK C c).toNat (-1, -1)
def pickE (C : List Int) (R : List (List (Int × Int))) (r c : Int) : Int := if inRC C R r c = true then (if 0 ≤ pkK C c ∧ pkK C c < (pkR R r).length then 0 else 1) else 5
def pickV (C : List Int) (R : List (List (Int × Int))) (r c : Int) : Int := if pickE C R r c = 0 then (if (pkO C R r c).1 = c then (pkO C R r c).2 else -1) else 0

theorem col_at {m : List (List Int)} {a : Nat} : ∀ {n : Nat}, a < n → (colL m n).getD a 0 = colAt m (colL m a) a
  | 0, h => absurd h (Nat.not_lt_zero _)
  | n + 1, h => by
    have hl := colL_length m n
    show (colL m n ++ [colAt m (colL m n) n]).getD a 0 = _
    by_cases e : a < n
    · rw [getD_left (by omega)]
      exact col_at e
    · obtain rfl : a = n := by omega
      have := getD_last (colL m a) (colAt m (colL m a) a) 0
      rwa [hl] at this
theorem col_proper {m : List (List Int)} {a b n : Nat} (hab : a < b) (hb : b < n) (h : clB m a b = true) : (colL m n).getD a 0 ≠ (colL m n).getD b 0 := by
  rw [col_at (show a < n by omega), col_at hb, ← col_at hab]
  intro e
  have h1 := (colAt_spec m b).2.1
  unfold freeC at h1
  have := List.all_eq_true.1 h1 a (List.mem_range.2 hab)
  rw [e, h] at this
  simp at this
theorem col_ne {m : List (List Int)} {a b n : Nat} (ha : a < n) (hb : b < n) (hab : a ≠ b) (h : clB m a b = true) : (colL m n).getD a 0 ≠ (colL m n).getD b 0 := by
  by_cases e : a < b
  · exact col_proper e hb h
  · exact (col_proper (by omega) ha (by rw [clB_comm]; exact h)).symm
theorem clash_row {m : List (List Int)} {i a b : Nat} (hi : i < m.length) (ha : nz (ent m i a) = true) (hb : nz (ent m i b) = true) : clB m a b = true := by
  unfold clB
  rw [List.any_eq_true]
  refine ⟨m[i], List.getElem_mem hi, ?_⟩
  unfold cl
  unfold ent at ha hb
  rw [getD_in hi] at ha hb
  rw [ha, hb]
  rfl
/-- What stands in a folded row. -/
theorem fold_at {l : List Nat} {n : Nat} {row : List Int} : ∀ (ks : List Nat), (∀ k, k ∈ ks → l.getD k 0 < n) → (∀ a b, a ∈ ks → b ∈ ks → a ≠ b → l.getD a 0 ≠ l.getD b 0) →
    (∀ k, k ∈ ks → (foldU l n row ks).getD (l.getD k 0) (-1, -1) = ((k : Int), row.getD k (-1))) ∧ ∀ c, (foldU l n row ks).getD c (-1, -1) = (-1, -1) ∨ ∃ k, k ∈ ks ∧ (foldU l n row ks).getD c (-1, -1) = ((k : Int), row.getD k (-1)) := by
  intro ks
  have key : ∀ r : Nat, ∀ ks : List Nat, ks.length = r → (∀ k, k ∈ ks → l.getD k 0 < n) → (∀ a b, a ∈ ks → b ∈ ks → a ≠ b → l.getD a 0 ≠ l.getD b 0) →
    (∀ k, k ∈ ks → (foldU l n row ks).getD (l.getD k 0) (-1, -1) = ((k : Int), row.getD k (-1))) ∧ ∀ c, (foldU l n row ks).getD c (-1, -1) = (-1, -1) ∨ ∃ k, k ∈ ks ∧ (foldU l n row ks).getD c (-1, -1) = ((k : Int), row.getD k (-1)) := by
    intro r
    induction r with
    | zero =>
      intro ks hr _ _
      obtain rfl := List.length_eq_zero_iff.1 hr
      refine ⟨fun k hk => (by cases hk), fun c => Or.inl ?_⟩
      unfold foldU
      rw [List.foldl_nil, List.getD_eq_getElem?_getD, List.getElem?_replicate]
      split <;> rfl
    | succ r ih =>
      intro ks hr h1 h2
      rcases List.eq_nil_or_concat ks with rfl | ⟨ks, j, rfl⟩
      · cases hr
      · rw [List.concat_eq_append] at *
        have hr' : ks.length = r := by rw [List.length_append] at hr; simp at hr; exact hr
        obtain ⟨q1, q2⟩ := ih ks hr' (fun k hk => h1 k (by simp [hk])) (fun a b ha hb => h2 a b (by simp [ha]) (by simp [hb]))
        have hj := h1 j (by simp)
        rw [foldU_append]
        have hset : ∀ c, ((foldU l n row ks).set (l.getD j 0) ((j : Int), row.getD j (-1))).getD c (-1, -1) = if l.getD j 0 = c then ((j : Int), row.getD j (-1)) else (foldU l n row ks).getD c (-1, -1) := fun c => set_at _ _ _ _ _ (by rw [foldU_length]; exact hj)
        constructor
        · intro k hk
          rw [hset]
          by_cases e : k = j
          · subst e
            rw [if_pos rfl]
          · rw [if_neg (h2 j k (by simp) hk (fun h => e h.symm))]
            rcases List.mem_append.1 hk with hk | hk
            · exact q1 k hk
            · exact absurd (List.mem_singleton.1 hk) e
        · intro c
          rw [hset]
          by_cases e : l.getD j 0 = c
          · rw [if_pos e]
            exact .inr ⟨j, by simp, rfl⟩
          · rw [if_neg e]
            rcases q2 c with h | ⟨k, hk, h⟩
            · exact .inl h
            · exact .inr ⟨k, by simp [hk], h⟩
  exact key ks.length ks rfl
theorem RightM.row' {m : List (List Int)} (h : RightM m) {i : Nat} (hi : i < m.length) : (m.getD i []).length = colsN m := by rw [getD_in hi]; exact h.len i hi
theorem fold_pick {m : List (List Int)} (hm : RightM m) {i k : Nat} (hi : i < m.length) (hk : k < colsN m) : pickE (foldC m) (foldV m) i k = 0 ∧ pickV (foldC m) (foldV m) i k = ent m i k := by
  have hC : foldC m = (colL m (colsN m)).map Int.ofNat := if_pos hm.chk
  have hG : foldV m = foldG m := if_pos hm.chk
  have hgl : (foldG m).length = m.length := by unfold foldG; rw [List.length_map]
  have hcl : ((colL m (colsN m)).map Int.ofNat).length = colsN m := by rw [List.length_map, colL_length]
  have hrow := hm.row' hi
  have hpR : pkR (foldG m) (i : Int) = foldRow (colL m (colsN m)) (manyC (colL m (colsN m))) (m.getD i []) := by
    unfold pkR foldG
    rw [Int.toNat_natCast, List.getD_eq_getElem?_getD, List.getElem?_map, List.getElem?_eq_getElem hi, getD_in hi]
    rfl
  have hpK : pkK ((colL m (colsN m)).map Int.ofNat) (k : Int) = ((colL m (colsN m)).getD k 0 : Nat) := by
    unfold pkK
    rw [Int.toNat_natCast, List.getD_eq_getElem?_getD, List.getElem?_map, List.getD_eq_getElem?_getD, List.getElem?_eq_getElem (by rw [colL_length]; exact hk)]
    rfl
  have hlt := col_lt (m := m) hk
  have hin : inRC ((colL m (colsN m)).map Int.ofNat) (foldG m) (i : Int) (k : Int) = true := by
    unfold inRC
    rw [hgl, hcl]
    simp
    omega
  have hE : pickE (foldC m) (foldV m) i k = 0 := by
    rw [hC, hG]
    unfold pickE
    rw [if_pos hin, hpK, hpR, if_pos]
    unfold foldRow
    rw [foldU_length]
    omega
  refine ⟨hE, ?_⟩
  unfold pickV
  rw [if_pos hE, hC, hG]
  unfold pkO
  rw [hpR, hpK, Int.toNat_natCast]
  have hnz : ∀ a, a ∈ fullL (m.getD i []) → nz (ent m i a) = true ∧ a < colsN m := fun a ha => by
    have h := mem_full.1 ha
    exact ⟨h, by rw [← hrow]; exact nz_lt h⟩
  obtain ⟨f1, f2⟩ := fold_at (l := colL m (colsN m)) (n := manyC (colL m (colsN m))) (row := m.getD i []) (fullL (m.getD i [])) (fun a ha => col_lt (hnz a ha).2) (fun a b ha hb hab => col_ne (hnz a ha).2 (hnz b hb).2 hab (clash_row hi (hnz a ha).1 (hnz b hb).1))
  unfold foldRow
  cases hn : nz (ent m i k) with
  | true =>
    rw [f1 k (mem_full.2 hn), if_pos rfl]
    rfl
  | false =>
    have he : ent m i k = -1 := by simpa [nz] using hn
    rw [he]
    split
    · rename_i hc
      rcases f2 ((colL m (colsN m)).getD k 0) with h | ⟨a, ha, h⟩
      · rw [h] at hc
        simp at hc
      · rw [h] at hc
        obtain rfl : a = k := by simp only at hc; omega
        rw [(hnz a ha).1] at hn
        cases hn
    · rfl
theorem look_lay {m : List (List Int)} (hm : RightM m) {i k : Nat} (hi : i < m.length) (hk : k < colsN m) : lookE (layR m) i k = 0 ∧ lookV (layR m) i k = ent m i k := by
  have hc := (lay_right hm).chk
  obtain ⟨s, h1, _⟩ := lay_st hm hi
  have hsl : (layR m).starts.length = m.length := (lay_inv hm).len
  have hh : hasE (layR m) i = 0 := by
    unfold hasE
    rw [if_pos hc, Int.toNat_natCast, h1, hsl, if_pos (by omega)]
  have he : lookE (layR m) i k = 0 := by
    unfold lookE
    rw [if_pos hh, if_pos]
    refine ⟨by omega, ?_⟩
    show (k : Int) < (colsN m : Int)
    omega
  refine ⟨he, ?_⟩
  unfold lookV
  rw [if_pos he, Int.toNat_natCast, Int.toNat_natCast, lay_look hm hi]
theorem back_lay {m : List (List Int)} (hm : RightM m) : backV (layR m) = m := by
  unfold backV
  rw [if_pos (lay_right hm).chk, lay_back hm]
end Go.Proofs.Ytecpkjhfbmchgaa
