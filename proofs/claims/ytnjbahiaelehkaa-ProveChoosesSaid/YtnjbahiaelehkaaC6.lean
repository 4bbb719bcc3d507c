/- Lines that are the same in another order; a slice of lines that is written. -/
import Derived.Test.YtnjbahiaelehkaaC4
namespace Go.Proofs.Ytnjbahiaelehkaa
open Go.RowKit

theorem sat_same {l m : List AM} (h : ∀ x, x ∈ l ↔ x ∈ m) : Sat l = Sat m := by
  funext x
  unfold Sat
  apply propext
  constructor
  · intro hs a ha
    exact hs a ((h a).2 ha)
  · intro hs a ha
    exact hs a ((h a).1 ha)
theorem poss_same {l m : List AM} (h : ∀ x, x ∈ l ↔ x ∈ m) : possB l = possB m := by
  have e := sat_same h
  unfold possB
  rw [e]
theorem ent_same {l m : List AM} (h : ∀ x, x ∈ l ↔ x ∈ m) (a : AM) : entB l a = entB m a := by
  have e := sat_same h
  unfold entB
  rw [e]
theorem max_same {l m : List AM} (h : ∀ x, x ∈ l ↔ x ∈ m) (a : AM) : maxO l a = maxO m a := by
  have e := sat_same h
  have e2 : IsMax l a = IsMax m a := by
    funext k
    unfold IsMax
    rw [e]
  unfold maxO
  rw [e2]
theorem rights_same {n : Int} {l m : List AM} (h : ∀ x, x ∈ l ↔ x ∈ m) : rightsB n l = rightsB n m := by
  rw [Bool.eq_iff_iff]
  unfold rightsB
  rw [List.all_eq_true, List.all_eq_true]
  exact ⟨fun hs a ha => hs a ((h a).2 ha), fun hs a ha => hs a ((h a).1 ha)⟩
theorem swap_mem {L : List AM} {i k : Nat} (hi : i < L.length) (hk : k < L.length) : ∀ x, x ∈ (L.set i L[k]).set k L[i] ↔ x ∈ L := by
  have hl : ((L.set i L[k]).set k L[i]).length = L.length := by simp
  intro x
  rw [List.mem_iff_getElem, List.mem_iff_getElem]
  constructor
  · rintro ⟨j, hj, e⟩
    rw [hl] at hj
    rw [List.getElem_set] at e
    split at e
    · exact ⟨i, hi, e⟩
    · rw [List.getElem_set] at e
      split at e
      · exact ⟨k, hk, e⟩
      · exact ⟨j, hj, e⟩
  · rintro ⟨j, hj, e⟩
    by_cases h1 : j = i
    · subst h1
      refine ⟨k, by rw [hl]; exact hk, ?_⟩
      rw [List.getElem_set, if_pos rfl]
      exact e
    · by_cases h2 : j = k
      · subst h2
        refine ⟨i, by rw [hl]; exact hi, ?_⟩
        rw [List.getElem_set, if_neg h1, List.getElem_set, if_pos rfl]
        exact e
      · refine ⟨j, by rw [hl]; exact hj, ?_⟩
        rw [List.getElem_set, if_neg (fun h => h2 h.symm), List.getElem_set, if_neg (fun h => h1 h.symm)]
        exact e

theorem wpList_append_lines {ops : Array Oper} {rest : List Oper} {o : Oper} {a : Act} {Q : Exit → Act → World → Prop} (w : World) (hgd : o.guard = none) (s x : Operand)
    (ho : o.op = .call { callee := .builtin .append, args := #[s, x], argTypes := #[22, 22] }) (base : Nat) (v : Value) (l0 l : List AM) (hsv : a.eval s = v) (hown : OwnL w base v l0) (A : Option Addr) (c : Nat) (hx : a.eval x = .slice A l.length c) (hl : Rd w A l) (hs : l0.length + l.length ≤ 1000000) (hb : base ≤ w.heap.size)
    (h : ∀ v' w', OwnL w' base v' (l0 ++ l) → w.grownBy w' v.ownBlock → (v'.ownBlock = v.ownBlock ∨ v'.ownBlock = some w.heap.size) → wpList Try.prog ops Q rest (a.put o.dst v') w') : wpList Try.prog ops Q (o :: rest) a w := by
  refine wpList_plain hgd fun K hK => ?_
  obtain ⟨v', w', hrun, h2, h3, h4⟩ := run_append_lines w base o.type v l0 l hown A c hl hs hb
  unfold Oper.wp execOp
  simp only [ho, resolve, invoke, builtin, Sem.run_bind, Sem.run_pure, Result.andThen_ok, List.map_toArray, List.map_cons, List.map_nil, hsv, hx, hrun]
  exact hK _ _ (h v' w' h2 h3 h4)

/-- Block g holds the lines L from its head on. -/
def BL (w : World) (g : Nat) (L : List AM) : Prop := ∃ cur, w.heap[g]? = some (.cells cur 24 (0, 0)) ∧ ∀ i (h : i < L.length), ∀ j, j < 5 → cur[i * 5 + j]? = (c5 L[i])[j]?
theorem BL.of_own {w : World} {base : Nat} {v : Value} {L : List AM} (h : OwnL w base v L) (hne : L ≠ []) : ∃ g cap, v = .slice (some ⟨g, 0, none⟩) L.length cap ∧ base ≤ g ∧ BL w g L := by
  rcases h.2 with ⟨_, h0⟩ | ⟨g, cap, cur, rfl, hg, hh, h1, h2, h3, h4⟩
  · exact absurd (List.length_eq_zero_iff.1 h0) hne
  · refine ⟨g, cap, rfl, hg, cur, hh, fun i hi j hj => ?_⟩
    have hlt : i * 5 + j < L.length * 5 := by omega
    rw [← c5_at L i hi j hj, ← h4, List.getElem?_take, if_pos hlt, Array.getElem?_toList]
theorem BL.at {w : World} {g : Nat} {L : List AM} (h : BL w g L) {i : Nat} (hi : i < L.length) : AMat w g (i * 5) L[i] := by
  obtain ⟨cur, hh, hc⟩ := h
  have key : ∀ j, j < 5 → w.cell? ⟨g, i * 5 + j, none⟩ = (c5 L[i])[j]? := fun j hj => by
    rw [cell_of_row _ _ _ _ _ _ hh]
    exact hc i hi j hj
  exact ⟨key 0 (by decide), key 1 (by decide), key 2 (by decide), key 3 (by decide), key 4 (by decide)⟩
theorem BL.frozen {w : World} {g : Nat} {L : List AM} (h : BL w g L) (o : Nat) : w.frozen? ⟨g, o, none⟩ = false := by
  obtain ⟨cur, hh, _⟩ := h
  simp [World.frozen?, hh]
theorem BL.lt {w : World} {g : Nat} {L : List AM} (h : BL w g L) : g < w.heap.size := by
  obtain ⟨cur, hh, _⟩ := h
  exact lt_of_heap hh
theorem BL.rd {w : World} {g : Nat} {L : List AM} (h : BL w g L) : Rd w (some ⟨g, 0, none⟩) L := fun i hi => ⟨g, 0, rfl, h.lt, by rw [Nat.zero_add]; exact h.at hi⟩
theorem BL.keep {w w' : World} {g : Nat} {L : List AM} (h : BL w g L) (e : w'.heap[g]? = w.heap[g]?) : BL w' g L := by
  obtain ⟨cur, hh, hc⟩ := h
  exact ⟨cur, by rw [e]; exact hh, hc⟩
theorem BL.below {w w' : World} {g : Nat} {L : List AM} (h : BL w g L) (hb : Below w.heap.size w w') : BL w' g L := h.keep (hb.block g h.lt)
/-- A line is written. -/
theorem BL.set {w : World} {g : Nat} {L : List AM} (h : BL w g L) {i : Nat} (hi : i < L.length) (x : AM) :
    BL (((((w.setCell ⟨g, i * 5, none⟩ (.int .i64 x.A)).setCell ⟨g, i * 5 + 1, none⟩ (.int .i64 x.P)).setCell ⟨g, i * 5 + 2, none⟩ (.int .i64 x.B)).setCell ⟨g, i * 5 + 3, none⟩ (.int .i64 x.Q)).setCell ⟨g, i * 5 + 4, none⟩ (.int .i64 x.M)) g (L.set i x) := by
  obtain ⟨cur, hh, hc⟩ := h
  have hsz : ∀ j, j < 5 → i * 5 + j < cur.size := fun j hj => by
    have := hc i hi j hj
    rcases Nat.lt_or_ge (i * 5 + j) cur.size with h | h
    · exact h
    · rw [Array.getElem?_eq_none h] at this
      match j, hj with
      | 0, _ => cases this
      | 1, _ => cases this
      | 2, _ => cases this
      | 3, _ => cases this
      | 4, _ => cases this
  refine ⟨_, heap_setCell_same _ _ _ _ _ _ (heap_setCell_same _ _ _ _ _ _ (heap_setCell_same _ _ _ _ _ _ (heap_setCell_same _ _ _ _ _ _ (heap_setCell_same _ _ _ _ _ _ hh)))), fun k hk j hj => ?_⟩
  have hk' : k < L.length := by simpa using hk
  have h4 := hsz 4 (by decide)
  by_cases e : k = i
  · subst e
    rw [List.getElem_set, if_pos rfl]
    match j, hj with
    | 0, _ => simp [Array.getElem?_setIfInBounds, c5]; omega
    | 1, _ => simp [Array.getElem?_setIfInBounds, c5]; omega
    | 2, _ => simp [Array.getElem?_setIfInBounds, c5]; omega
    | 3, _ => simp [Array.getElem?_setIfInBounds, c5]; omega
    | 4, _ => simp [Array.getElem?_setIfInBounds, c5]; omega
  · rw [List.getElem_set, if_neg (fun h => e h.symm), ← hc k hk' j hj]
    rw [Array.getElem?_setIfInBounds, if_neg (by omega), Array.getElem?_setIfInBounds, if_neg (by omega), Array.getElem?_setIfInBounds, if_neg (by omega), Array.getElem?_setIfInBounds, if_neg (by omega), Array.getElem?_setIfInBounds, if_neg (by omega)]
end Go.Proofs.Ytnjbahiaelehkaa
