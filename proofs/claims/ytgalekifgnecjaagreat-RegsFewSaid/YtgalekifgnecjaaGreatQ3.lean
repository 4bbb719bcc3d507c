/- The other name of a slot; instructions of the call's own, changed in place; a list that holds a pair. -/
import Derived.Test.YtgalekifgnecjaaGreatQ2
import Derived.Test.YtgalekifgnecjaaGreatC2
import Derived.BigQuiet
namespace Go.Proofs.YtgalekifgnecjaaGreat
open Go.RowKit
attribute [local go_sem] Oper.semAt_some
attribute [local irreducible] wpStill
/-- Block g holds instructions from its head on. -/
def BC (w : World) (g : Nat) (l : List InsN) : Prop := ∃ cur, w.heap[g]? = some (.cells cur 85 (0, 0)) ∧ ∀ i (h : i < l.length), cur[i * 4]? = some (.int .i64 l[i].op) ∧ cur[i * 4 + 1]? = some (.int .i64 l[i].a) ∧ cur[i * 4 + 2]? = some (.int .i64 l[i].b) ∧ cur[i * 4 + 3]? = some (.int .i64 l[i].c)
theorem BC.of_own {w : World} {base : Nat} {v : Value} {l : List InsN} (h : OwnX encC 85 w base v l) (hne : l ≠ []) : ∃ g cap, v = .slice (some ⟨g, 0, none⟩) l.length cap ∧ base ≤ g ∧ BC w g l ∧ l.length ≤ cap := by
  rcases h.2 with ⟨_, h0⟩ | ⟨g, cap, cur, rfl, hg, hh, h1, h2, h3, h4⟩
  · exact absurd (List.length_eq_zero_iff.1 h0) hne
  · refine ⟨g, cap, rfl, hg, ⟨cur, hh, fun i hi => ?_⟩, h1⟩
    have key : ∀ j, j < 4 → cur[i * 4 + j]? = (encC.c l[i])[j]? := fun j hj => by
      have e : (cur.toList.take (l.length * encC.k))[i * encC.k + j]? = (l.flatMap encC.c)[i * encC.k + j]? := by rw [h4]
      rw [List.getElem?_take, if_pos (show i * encC.k + j < l.length * encC.k from by show i * 4 + j < l.length * 4; omega), encC.at l i hi j hj] at e
      have e' := e
      simp only [Array.getElem?_toList] at e'
      exact e'
    exact ⟨(key 0 (by omega)).trans rfl, (key 1 (by omega)).trans rfl, (key 2 (by omega)).trans rfl, (key 3 (by omega)).trans rfl⟩
theorem BC.lt {w : World} {g : Nat} {l : List InsN} (h : BC w g l) : g < w.heap.size := by
  obtain ⟨cur, hh, _⟩ := h
  exact lt_of_heap hh
theorem BC.rd {w : World} {g : Nat} {l : List InsN} (h : BC w g l) : RdC w (some ⟨g, 0, none⟩) l := by
  intro i hi
  have hlt := h.lt
  obtain ⟨cur, hh, hc⟩ := h
  obtain ⟨h0, h1, h2, h3⟩ := hc i hi
  refine ⟨g, 0, rfl, hlt, ?_, ?_, ?_, ?_⟩
  · rw [cell_of_row _ _ _ _ _ _ hh, Nat.zero_add]; exact h0
  · rw [cell_of_row _ _ _ _ _ _ hh, Nat.zero_add]; exact h1
  · rw [cell_of_row _ _ _ _ _ _ hh, Nat.zero_add]; exact h2
  · rw [cell_of_row _ _ _ _ _ _ hh, Nat.zero_add]; exact h3
theorem BC.frozen {w : World} {g : Nat} {l : List InsN} (h : BC w g l) (o : Nat) : w.frozen? ⟨g, o, none⟩ = false := by
  obtain ⟨cur, hh, _⟩ := h
  simp [World.frozen?, hh]
theorem BC.keep {w w' : World} {g : Nat} {l : List InsN} (h : BC w g l) (e : w'.heap[g]? = w.heap[g]?) : BC w' g l := by
  obtain ⟨cur, hh, hc⟩ := h
  exact ⟨cur, by rw [e]; exact hh, hc⟩
theorem BC.below {w w' : World} {g : Nat} {l : List InsN} (h : BC w g l) (hb : Below w.heap.size w w') : BC w' g l := h.keep (hb.block g h.lt)
theorem BC.setA {w : World} {g : Nat} {l : List InsN} (h : BC w g l) {i : Nat} (hi : i < l.length) (v : Int) : BC (w.setCell ⟨g, i * 4 + 1, none⟩ (.int .i64 v)) g (l.set i ⟨l[i].op, v, l[i].b, l[i].c⟩) := by
  obtain ⟨cur, hh, hc⟩ := h
  have hsz : i * 4 + 1 < cur.size := (Array.getElem?_eq_some_iff.1 (hc i hi).2.1).1
  refine ⟨_, heap_setCell_same _ _ _ _ _ _ hh, fun k hk => ?_⟩
  have hk' : k < l.length := by simpa using hk
  obtain ⟨h0, h1, h2, h3⟩ := hc k hk'
  simp only [Array.getElem?_setIfInBounds, List.getElem_set]
  clear hc
  by_cases e : i = k
  · subst e
    refine ⟨?_, ?_, ?_, ?_⟩
    · rw [if_neg (by omega), if_pos rfl]; exact h0
    · rw [if_pos rfl, if_pos hsz, if_pos rfl]
    · rw [if_neg (by omega), if_pos rfl]; exact h2
    · rw [if_neg (by omega), if_pos rfl]; exact h3
  · refine ⟨?_, ?_, ?_, ?_⟩
    · rw [if_neg (by omega), if_neg e]; exact h0
    · rw [if_neg (by omega), if_neg e]; exact h1
    · rw [if_neg (by omega), if_neg e]; exact h2
    · rw [if_neg (by omega), if_neg e]; exact h3
theorem BC.setB {w : World} {g : Nat} {l : List InsN} (h : BC w g l) {i : Nat} (hi : i < l.length) (v : Int) : BC (w.setCell ⟨g, i * 4 + 2, none⟩ (.int .i64 v)) g (l.set i ⟨l[i].op, l[i].a, v, l[i].c⟩) := by
  obtain ⟨cur, hh, hc⟩ := h
  have hsz : i * 4 + 2 < cur.size := (Array.getElem?_eq_some_iff.1 (hc i hi).2.2.1).1
  refine ⟨_, heap_setCell_same _ _ _ _ _ _ hh, fun k hk => ?_⟩
  have hk' : k < l.length := by simpa using hk
  obtain ⟨h0, h1, h2, h3⟩ := hc k hk'
  simp only [Array.getElem?_setIfInBounds, List.getElem_set]
  clear hc
  by_cases e : i = k
  · subst e
    refine ⟨?_, ?_, ?_, ?_⟩
    · rw [if_neg (by omega), if_pos rfl]; exact h0
    · rw [if_neg (by omega), if_pos rfl]; exact h1
    · rw [if_pos rfl, if_pos hsz, if_pos rfl]
    · rw [if_neg (by omega), if_pos rfl]; exact h3
  · refine ⟨?_, ?_, ?_, ?_⟩
    · rw [if_neg (by omega), if_neg e]; exact h0
    · rw [if_neg (by omega), if_neg e]; exact h1
    · rw [if_neg (by omega), if_neg e]; exact h2
    · rw [if_neg (by omega), if_neg e]; exact h3
end Go.Proofs.YtgalekifgnecjaaGreat
