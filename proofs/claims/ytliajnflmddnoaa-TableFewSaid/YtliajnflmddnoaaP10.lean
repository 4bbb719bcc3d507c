/- A set of colours, in plain words: how many there are. -/
import Derived.Test.YtliajnflmddnoaaP9
import Derived.Maps.Own
import Derived.Maps.Views
namespace Go.Proofs.Ytliajnflmddnoaa
open Go.Maps Go.WideMaps

def keysL (l : List Int) (k : Nat) : List Lit := (l.take k).map (Lit.int .i64)
def Sn (l : List Int) (k : Nat) : DataW Unit := setOf (.lit (.bool true)) (keysL l k)
theorem keysL_succ {l : List Int} {k : Nat} (hk : k < l.length) : keysL l (k + 1) = keysL l k ++ [Lit.int .i64 (l.getD k (-1))] := by
  unfold keysL
  rw [take_last hk, List.map_append, getD_in hk]
  rfl
theorem Sn_succ {l : List Int} {k : Nat} (hk : k < l.length) : Sn l (k + 1) = (Sn l k).put (Lit.int .i64 (l.getD k (-1))) (.lit (.bool true)) := by
  unfold Sn
  rw [keysL_succ hk, setOf_snoc]
theorem Sn_zero (l : List Int) : Sn l 0 = .map [] := by simp [Sn, keysL, setOf]
def getI : Lit → Int
  | .int _ a => a
  | _ => 0
theorem mem_fold {x : Lit} (hx : WideAt.IsKeyLit x) : ∀ (xs L : List Lit), (x ∈ xs ∨ L.any (fun y => y.sameKey x) = true) → (xs.foldl addKey L).any (fun y => y.sameKey x) = true
  | [], L, h => by
    rcases h with h | h
    · cases h
    · exact h
  | z :: xs, L, h => by
    rw [List.foldl_cons]
    refine mem_fold hx xs _ ?_
    have hkeep : L.any (fun y => y.sameKey x) = true → (addKey L z).any (fun y => y.sameKey x) = true := fun h => by
      unfold addKey
      split
      · exact h
      · rw [List.any_append, h]
        rfl
    rcases h with h | h
    · rcases List.mem_cons.1 h with rfl | h
      · refine .inr ?_
        unfold addKey
        split
        · rename_i h
          exact h
        · rw [List.any_append]
          simp [WideAt.sameKey_self hx]
      · exact .inl h
    · exact .inr (hkeep h)
theorem sn_ge {l : List Int} {n : Nat} (h : ∀ u : List Int, (∀ x, x ∈ l → x ∈ u) → n ≤ u.length) : n ≤ size (Sn l l.length) := by
  unfold Sn
  have hk : ∀ x ∈ keysL l l.length, WideAt.IsKeyLit x := fun x hx => by
    unfold keysL at hx
    obtain ⟨y, _, rfl⟩ := List.mem_map.1 hx
    trivial
  rw [size_setOf _ _ hk]
  have := h (((keysL l l.length).foldl addKey []).map getI) (fun x hx => by
    have hm : Lit.int .i64 x ∈ keysL l l.length := by
      unfold keysL
      rw [List.take_length]
      exact List.mem_map.2 ⟨x, hx, rfl⟩
    have h1 := mem_fold (hk _ hm) (keysL l l.length) [] (.inl hm)
    obtain ⟨y, hy, hs⟩ := List.any_eq_true.1 h1
    have e : y = Lit.int .i64 x := by
      refine Classical.byContradiction fun hne => ?_
      rw [sameKey_ne hne] at hs
      cases hs
    exact List.mem_map.2 ⟨y, hy, by rw [e]; rfl⟩)
  rwa [List.length_map] at this
end Go.Proofs.Ytliajnflmddnoaa
