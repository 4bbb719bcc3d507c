/- The order of rows: the one list of the indices in which those with more entries stand first, equal ones as they came. -/
import Derived.Test.YtliajnflmddnoaaP1
namespace Go.Proofs.Ytliajnflmddnoaa

/-- Row x stands before row y. -/
def Bef (key : Nat → Nat) (x y : Nat) : Prop := key y < key x ∨ (key x = key y ∧ x < y)
def keyM (m : List (List Int)) (i : Nat) : Nat := manyN (m.getD i [])
theorem flat_pair {key : Nat → Nat} {n : Nat} : ∀ {ks : List Nat}, ks.Pairwise (fun a b => b < a) → (ks.flatMap fun k => (List.range n).filter fun i => key i == k).Pairwise (Bef key)
  | [], _ => List.Pairwise.nil
  | k :: ks, h => by
    rw [List.flatMap_cons, List.pairwise_append]
    obtain ⟨h1, h2⟩ := List.pairwise_cons.1 h
    refine ⟨?_, flat_pair h2, ?_⟩
    · have hr : (List.range n).Pairwise (· < ·) := List.pairwise_lt_range
      have hf := hr.filter (fun i => key i == k)
      refine hf.imp_of_mem ?_
      intro a b ha hb hab
      have ha' := (List.mem_filter.1 ha).2
      have hb' := (List.mem_filter.1 hb).2
      simp only [beq_iff_eq] at ha' hb'
      exact .inr ⟨by omega, hab⟩
    · intro a ha b hb
      have ha' := (List.mem_filter.1 ha).2
      simp only [beq_iff_eq] at ha'
      obtain ⟨k', hk', hb⟩ := List.mem_flatMap.1 hb
      have hb' := (List.mem_filter.1 hb).2
      simp only [beq_iff_eq] at hb'
      have := h1 k' hk'
      exact .inl (by omega)
theorem bef_irr {key : Nat → Nat} {x : Nat} : ¬ Bef key x x := by
  rintro (h | ⟨_, h⟩)
  · exact Nat.lt_irrefl _ h
  · exact Nat.lt_irrefl _ h
theorem bef_asymm {key : Nat → Nat} {x y : Nat} (h : Bef key x y) (h' : Bef key y x) : False := by
  unfold Bef at *
  omega
theorem order_pair (m : List (List Int)) : (orderL m).Pairwise (Bef (keyM m)) := by
  unfold orderL
  refine flat_pair (key := keyM m) ?_
  rw [List.pairwise_reverse]
  exact List.pairwise_lt_range
theorem order_mem {m : List (List Int)} (hm : RightM m) {i : Nat} : i ∈ orderL m ↔ i < m.length := by
  unfold orderL
  rw [List.mem_flatMap]
  constructor
  · rintro ⟨k, _, h⟩
    exact List.mem_range.1 (List.mem_filter.1 h).1
  · intro h
    refine ⟨manyN (m.getD i []), ?_, List.mem_filter.2 ⟨List.mem_range.2 h, by simp⟩⟩
    rw [List.mem_reverse, List.mem_range]
    have h1 := manyN_le (m.getD i [])
    have h2 : (m.getD i []).length = colsN m := by rw [getD_in h]; exact hm.len i h
    omega
theorem bef_nodup {key : Nat → Nat} {l : List Nat} (h : l.Pairwise (Bef key)) : l.Nodup := h.imp fun hab e => by
  subst e
  exact bef_irr hab
theorem bef_eq {key : Nat → Nat} {l l' : List Nat} (h : l.Pairwise (Bef key)) (h' : l'.Pairwise (Bef key)) (hm : ∀ i, i ∈ l ↔ i ∈ l') : l = l' := by
  have hp : l.Perm l' := (List.perm_ext_iff_of_nodup (bef_nodup h) (bef_nodup h')).2 hm
  exact hp.eq_of_pairwise (le := Bef key) (fun a b _ _ h1 h2 => (bef_asymm h1 h2).elim) h h'
theorem order_is {m : List (List Int)} (hm : RightM m) {l : List Nat} (h : l.Pairwise (Bef (keyM m))) (hl : ∀ i, i ∈ l ↔ i < m.length) : l = orderL m :=
  bef_eq h (order_pair m) fun i => by rw [hl, order_mem hm]
theorem order_perm {m : List (List Int)} (hm : RightM m) : (orderL m).Perm (List.range m.length) :=
  (List.perm_ext_iff_of_nodup (bef_nodup (order_pair m)) List.nodup_range).2 fun i => by rw [order_mem hm, List.mem_range]
theorem order_length {m : List (List Int)} (hm : RightM m) : (orderL m).length = m.length := by
  rw [(order_perm hm).length_eq, List.length_range]

/-- Under way with the sort: A, then the row i that is being put in, then B; all ahead of i are in order. -/
structure Mid (key : Nat → Nat) (i : Nat) (A B : List Nat) : Prop where
  pair : (A ++ B).Pairwise (Bef key)
  mem : ∀ x, x ∈ A ++ B ↔ x < i
  low : ∀ b, b ∈ B → key b < key i
theorem Mid.start {key : Nat → Nat} {i : Nat} {A : List Nat} (h : A.Pairwise (Bef key)) (hm : ∀ x, x ∈ A ↔ x < i) : Mid key i A [] :=
  ⟨by rw [List.append_nil]; exact h, fun x => by rw [List.append_nil]; exact hm x, fun b hb => by cases hb⟩
theorem Mid.step {key : Nat → Nat} {i x : Nat} {A B : List Nat} (h : Mid key i (A ++ [x]) B) (hx : key x < key i) : Mid key i A (x :: B) := by
  have e : A ++ x :: B = A ++ [x] ++ B := by rw [List.append_assoc]; rfl
  refine ⟨by rw [e]; exact h.pair, fun y => by rw [e]; exact h.mem y, fun b hb => ?_⟩
  rcases List.mem_cons.1 hb with rfl | hb
  · exact hx
  · exact h.low b hb
theorem Mid.stop {key : Nat → Nat} {i : Nat} {A B : List Nat} (h : Mid key i A B) (hs : ∀ A' x, A = A' ++ [x] → key i ≤ key x) : (A ++ i :: B).Pairwise (Bef key) ∧ ∀ x, x ∈ A ++ i :: B ↔ x < i + 1 := by
  obtain ⟨hA, hB, hAB⟩ := List.pairwise_append.1 h.pair
  constructor
  · rw [List.pairwise_append]
    refine ⟨hA, List.pairwise_cons.2 ⟨fun b hb => .inl (h.low b hb), hB⟩, fun a ha b hb => ?_⟩
    have hkey : key i ≤ key a := by
      rcases List.eq_nil_or_concat A with rfl | ⟨A', x, rfl⟩
      · cases ha
      · rw [List.concat_eq_append] at *
        have h1 := hs A' x rfl
        rcases List.mem_append.1 ha with ha | ha
        · have := (List.pairwise_append.1 hA).2.2 a ha x (List.mem_singleton.2 rfl)
          unfold Bef at this
          omega
        · rw [List.mem_singleton.1 ha]; exact h1
    rcases List.mem_cons.1 hb with rfl | hb
    · have ha' := (h.mem a).1 (List.mem_append.2 (.inl ha))
      unfold Bef
      omega
    · exact hAB a ha b hb
  · intro x
    have := h.mem x
    rw [List.mem_append] at this
    rw [List.mem_append, List.mem_cons]
    constructor
    · rintro (h | h | h)
      · exact Nat.lt_succ_of_lt (this.1 (.inl h))
      · omega
      · exact Nat.lt_succ_of_lt (this.1 (.inr h))
    · intro h
      by_cases e : x = i
      · exact .inr (.inl e)
      · rcases this.2 (by omega) with h | h
        · exact .inl h
        · exact .inr (.inr h)
end Go.Proofs.Ytliajnflmddnoaa
