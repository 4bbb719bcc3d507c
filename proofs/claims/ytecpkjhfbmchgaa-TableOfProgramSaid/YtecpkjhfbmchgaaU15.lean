/- headed of package core, plainly; blocks of truths. -/
import Derived.Test.YtecpkjhfbmchgaaU14
import Derived.Test.YtecpkjhfbmchgaaG19
namespace Go.Proofs.Ytecpkjhfbmchgaa
open Go.RowKit

/-- How many arguments the selector has that an instruction calls. -/
def nArg (p : PrgN) (i : InsN) : Nat := ((p.sels.getD (callC i).toNat sel0).args).toNat
def argB (i : InsN) (k : Nat) : Bool := i.op == 19 && i.a == k
/-- The first k arguments ahead of a call are there. -/
def wholeU (p : PrgN) (code : List InsN) (t k : Nat) : Bool := decide (nArg p (code.getD t ins0) ≤ t) && (List.range k).all fun j => argB (code.getD (t - nArg p (code.getD t ins0) + j) ins0) j
def wholeB (p : PrgN) (code : List InsN) (t : Nat) : Bool := wholeU p code t (nArg p (code.getD t ins0))
theorem wholeU_succ (p : PrgN) (code : List InsN) (t k : Nat) : wholeU p code t (k + 1) = (wholeU p code t k && argB (code.getD (t - nArg p (code.getD t ins0) + k) ins0) k) := by
  unfold wholeU
  rw [List.range_succ, List.all_append, List.all_cons, List.all_nil, Bool.and_true, Bool.and_assoc]
theorem wholeU_no {p : PrgN} {code : List InsN} {t : Nat} : ∀ {k m : Nat}, k ≤ m → wholeU p code t k = false → wholeU p code t m = false
  | k, 0, h, e => by obtain rfl : k = 0 := by omega
                     exact e
  | k, m + 1, h, e => by
    by_cases hk : k = m + 1
    · subst hk; exact e
    · rw [wholeU_succ, wholeU_no (by omega : k ≤ m) e]; rfl
/-- A value, written k times from a place on. -/
def mark {α : Type} (l : List α) (lo k : Nat) (v : α) : List α := (List.range k).foldl (fun h j => h.set (lo + j) v) l
theorem mark_succ {α : Type} (l : List α) (lo k : Nat) (v : α) : mark l lo (k + 1) v = (mark l lo k v).set (lo + k) v := by
  unfold mark
  rw [List.range_succ, List.foldl_append]
  rfl
theorem mark_length {α : Type} (l : List α) (lo : Nat) (v : α) : ∀ k, (mark l lo k v).length = l.length
  | 0 => rfl
  | k + 1 => by rw [mark_succ, List.length_set, mark_length l lo v k]
def hdStep (p : PrgN) (code : List InsN) (s : List Int × List Bool) (t : Nat) : List Int × List Bool :=
  if (callB (code.getD t ins0) && wholeB p code t) = true then (mark s.1 (t - nArg p (code.getD t ins0)) (nArg p (code.getD t ins0) + 1) ((t - nArg p (code.getD t ins0) : Nat) : Int), mark s.2 (t - nArg p (code.getD t ins0)) (nArg p (code.getD t ins0) + 1) true) else s
/-- The heads, and who is in a group, behind the first k instructions. -/
def hdU (p : PrgN) (code : List InsN) (k : Nat) : List Int × List Bool := (List.range k).foldl (hdStep p code) ((List.range code.length).map Int.ofNat, List.replicate code.length false)
theorem hdU_succ (p : PrgN) (code : List InsN) (k : Nat) : hdU p code (k + 1) = hdStep p code (hdU p code k) k := by
  unfold hdU
  rw [List.range_succ, List.foldl_append]
  rfl
theorem hdStep_length (p : PrgN) (code : List InsN) (s : List Int × List Bool) (t : Nat) : (hdStep p code s t).1.length = s.1.length ∧ (hdStep p code s t).2.length = s.2.length := by
  unfold hdStep
  split
  · exact ⟨mark_length _ _ _ _, mark_length _ _ _ _⟩
  · exact ⟨rfl, rfl⟩
theorem hdU_length (p : PrgN) (code : List InsN) : ∀ k, (hdU p code k).1.length = code.length ∧ (hdU p code k).2.length = code.length
  | 0 => by unfold hdU; simp
  | k + 1 => by
    rw [hdU_succ]
    have h := hdStep_length p code (hdU p code k) k
    have h2 := hdU_length p code k
    exact ⟨h.1.trans h2.1, h.2.trans h2.2⟩
def headL (p : PrgN) (code : List InsN) : List Int := (hdU p code code.length).1
def grpL (p : PrgN) (code : List InsN) : List Bool := (hdU p code code.length).2
/-- An instruction that ought to stand in a group, and does not. -/
def loneB (p : PrgN) (code : List InsN) (t : Nat) : Bool := (callB (code.getD t ins0) || (code.getD t ins0).op == 19) && !(grpL p code).getD t false
def headE (p : PrgN) (code : List InsN) : Int := idxP (loneB p code) (List.range code.length)
theorem headE_yes {p : PrgN} {code : List InsN} {t : Nat} (ht : t < code.length) (h : loneB p code t = true) (hn : ∀ j, j < t → loneB p code j = false) : headE p code = t := by
  unfold headE
  refine idxP_some (by rw [List.length_range]; exact ht) (by rw [List.getElem_range]; exact h) ?_
  intro x hx
  rw [List.take_range, List.mem_range] at hx
  exact hn x (by omega)
theorem headE_no {p : PrgN} {code : List InsN} (hn : ∀ j, j < code.length → loneB p code j = false) : headE p code = -1 := idxP_none fun x hx => hn x (List.mem_range.1 hx)
/-- The numbers ahead of k, then zeros. -/
def fillU (n k : Nat) : List Int := (List.range k).map Int.ofNat ++ List.replicate (n - k) 0
theorem fillU_length {n k : Nat} (h : k ≤ n) : (fillU n k).length = n := by unfold fillU; simp; omega
theorem fillU_succ {n k : Nat} (h : k < n) : fillU n (k + 1) = (fillU n k).set k k := by
  unfold fillU
  have e : n - k = (n - (k + 1)) + 1 := by omega
  rw [List.range_succ, List.map_append, e, List.replicate_succ, List.set_append_right _ _ (by simp)]
  simp
theorem fillU_all (n : Nat) : fillU n n = (List.range n).map Int.ofNat := by unfold fillU; simp
/-- A block of truths. -/
def BB (w : World) (g : Nat) (L : List Bool) : Prop := ∃ cur, w.heap[g]? = some (.cells cur 4 (0, 0)) ∧ ∀ i (h : i < L.length), cur[i]? = some (.bool L[i])
theorem BB.at {w : World} {g : Nat} {L : List Bool} (h : BB w g L) {i : Nat} (hi : i < L.length) : w.cell? ⟨g, i, none⟩ = some (.bool L[i]) := by
  obtain ⟨cur, h1, h2⟩ := h
  rw [cell_of_row _ _ _ _ _ _ h1]
  exact h2 i hi
theorem BB.lt {w : World} {g : Nat} {L : List Bool} (h : BB w g L) : g < w.heap.size := by
  obtain ⟨cur, h1, _⟩ := h
  exact lt_of_heap h1
theorem BB.keep {w w' : World} {g : Nat} {L : List Bool} (h : BB w g L) (e : w'.heap[g]? = w.heap[g]?) : BB w' g L := by
  obtain ⟨cur, h1, h2⟩ := h
  exact ⟨cur, e.trans h1, h2⟩
theorem BB.below {w w' : World} {g : Nat} {L : List Bool} (h : BB w g L) (hb : Below w.heap.size w w') : BB w' g L := h.keep (hb.block g h.lt)
theorem BB.frozen {w : World} {g : Nat} {L : List Bool} (h : BB w g L) (o : Nat) : w.frozen? ⟨g, o, none⟩ = false := by
  obtain ⟨cur, h1, _⟩ := h
  unfold World.frozen?
  simp [h1]
theorem BB.set {w : World} {g : Nat} {L : List Bool} (h : BB w g L) {i : Nat} (hi : i < L.length) (v : Bool) : BB (w.setCell ⟨g, i, none⟩ (.bool v)) g (L.set i v) := by
  obtain ⟨cur, h1, h2⟩ := h
  have hh := h1
  refine ⟨_, heap_setCell_same _ _ _ _ _ _ hh, fun k hk => ?_⟩
  have hk' : k < L.length := by simpa using hk
  have hic : i < cur.size := by
    have := h2 i hi
    rcases Nat.lt_or_ge i cur.size with h | h
    · exact h
    · rw [Array.getElem?_eq_none h] at this; cases this
  rw [Array.getElem?_setIfInBounds, List.getElem_set]
  by_cases e : i = k
  · subst e; simp [hic]
  · simp [e]; exact h2 k hk'
theorem bb_made (w : World) (n : Nat) : BB (w.alloc (.cells (madeCells #[.bool false] n) 4)) w.heap.size (List.replicate n false) := by
  refine ⟨_, heapn _ _ _ rfl, fun i hi => ?_⟩
  have hi' : i < n := by simpa using hi
  simp [madeCells, hi', Nat.mod_one]
theorem BI.ne_bb {w : World} {g g' : Nat} {l : List Int} {L : List Bool} (h : BI w g l) (h' : BB w g' L) : g ≠ g' := by
  rintro rfl
  obtain ⟨c, h1, _⟩ := h
  obtain ⟨c', h2, _⟩ := h'
  rw [h1] at h2
  cases h2
end Go.Proofs.Ytecpkjhfbmchgaa
