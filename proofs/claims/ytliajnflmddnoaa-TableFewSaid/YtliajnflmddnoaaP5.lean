/- Clique, Fold and Pick in plain words. -/
import Derived.Test.YtliajnflmddnoaaP4
namespace Go.Proofs.Ytliajnflmddnoaa

/-- The row with the most entries, the first one of these. -/
def bestR (m : List (List Int)) : Nat := (orderL m).getD 0 0
def cliqueL (m : List (List Int)) : List Nat := fullL (m.getD (bestR m) [])
def cliqueV (m : List (List Int)) : List Int := if chkM m = 0 then (cliqueL m).map Int.ofNat else []
/-- A folded row, the entries of the columns k put in. -/
def foldU (l : List Nat) (n : Nat) (row : List Int) (ks : List Nat) : List (Int × Int) := ks.foldl (fun o k => o.set (l.getD k 0) ((k : Int), row.getD k (-1))) (List.replicate n (-1, -1))
def foldRow (l : List Nat) (n : Nat) (row : List Int) : List (Int × Int) := foldU l n row (fullL row)
theorem foldU_append (l : List Nat) (n : Nat) (row : List Int) (ks : List Nat) (k : Nat) : foldU l n row (ks ++ [k]) = (foldU l n row ks).set (l.getD k 0) ((k : Int), row.getD k (-1)) := by
  unfold foldU
  rw [List.foldl_append]
  rfl
theorem foldU_length (l : List Nat) (n : Nat) (row : List Int) : ∀ ks : List Nat, (foldU l n row ks).length = n := by
  intro ks
  unfold foldU
  have : ∀ (ks : List Nat) (o : List (Int × Int)), (ks.foldl (fun o k => o.set (l.getD k 0) ((k : Int), row.getD k (-1))) o).length = o.length := by
    intro ks
    induction ks with
    | nil => intro o; rfl
    | cons k ks ih => intro o; rw [List.foldl_cons, ih, List.length_set]
  rw [this, List.length_replicate]
def foldG (m : List (List Int)) : List (List (Int × Int)) := m.map (foldRow (colL m (colsN m)) (manyC (colL m (colsN m))))
def foldC (m : List (List Int)) : List Int := if chkM m = 0 then (colL m (colsN m)).map Int.ofNat else []
def foldV (m : List (List Int)) : List (List (Int × Int)) := if chkM m = 0 then foldG m else []
theorem col_lt {m : List (List Int)} {k n : Nat} (h : k < n) : (colL m n).getD k 0 < manyC (colL m n) := by
  refine manyC_lt ?_
  rw [getD_in (by rw [colL_length]; exact h)]
  exact List.getElem_mem _

/-- Pick's error, and its entry. -/
def inRC (C : List Int) (R : List (List (Int × Int))) (r c : Int) : Bool := (decide (0 ≤ r) && decide (r < R.length)) && (decide (0 ≤ c) && decide (c < C.length))
def pkK (C : List Int) (c : Int) : Int := C.getD c.toNat 0
def pkR (R : List (List (Int × Int))) (r : Int) : List (Int × Int) := R.getD r.toNat []
def pkO (C : List Int) (R : List (List (Int × Int))) (r c : Int) : Int × Int := (pkR R r).getD (pkK C c).toNat (-1, -1)
def pickE (C : List Int) (R : List (List (Int × Int))) (r c : Int) : Int := if inRC C R r c = true then (if 0 ≤ pkK C c ∧ pkK C c < (pkR R r).length then 0 else 1) else 5
def pickV (C : List Int) (R : List (List (Int × Int))) (r c : Int) : Int := if pickE C R r c = 0 then (if (pkO C R r c).1 = c then (pkO C R r c).2 else -1) else 0
end Go.Proofs.Ytliajnflmddnoaa
