/- Needed and Core, in plain words: what is kept entails all, and nothing of it can be left out. -/
import Derived.Test.YtnjbahiaelehkaaA19
namespace Go.Proofs.Ytnjbahiaelehkaa
open Go.RowKit

def lAt (l : List AM) (k : Int) : AM := l.getD k.toNat am0
theorem sat_pick {l : List AM} {ks : List Int} {x : Nat → Int} : Sat (pick l ks) x ↔ ∀ k, k ∈ ks → lhs x (lAt l k) ≤ (lAt l k).M := by
  unfold Sat pick
  constructor
  · intro h k hk
    exact h _ (List.mem_map.2 ⟨k, hk, rfl⟩)
  · intro h a ha
    obtain ⟨k, hk, rfl⟩ := List.mem_map.1 ha
    exact h k hk
theorem lAt_nat {l : List AM} {i : Nat} (h : i < l.length) : lAt l i = l[i] := by
  unfold lAt
  rw [Int.toNat_natCast, List.getD_eq_getElem?_getD, List.getElem?_eq_getElem h]
  rfl
theorem sat_upto {l : List AM} {x : Nat → Int} : Sat (pick l (upto l.length)) x ↔ Sat l x := by
  rw [sat_pick]
  constructor
  · intro h a ha
    obtain ⟨i, hi, rfl⟩ := List.mem_iff_getElem.1 ha
    have := h (i : Int) (mem_upto.2 ⟨by omega, by omega⟩)
    rw [lAt_nat hi] at this
    exact this
  · intro h k hk
    obtain ⟨h0, h1⟩ := mem_upto.1 hk
    obtain ⟨i, rfl⟩ : ∃ i : Nat, k = i := ⟨k.toNat, by omega⟩
    have hi : i < l.length := by omega
    rw [lAt_nat hi]
    exact h _ (List.getElem_mem hi)
theorem pick_subset {l : List AM} {ks ks' : List Int} (h : ∀ k, k ∈ ks' → k ∈ ks) : ∀ y, y ∈ pick l ks' → y ∈ pick l ks := by
  intro y hy
  unfold pick at *
  obtain ⟨k, hk, rfl⟩ := List.mem_map.1 hy
  exact List.mem_map.2 ⟨k, h k hk, rfl⟩
theorem sat_subset {r r' : List AM} (h : ∀ y, y ∈ r' → y ∈ r) {x : Nat → Int} (hs : Sat r x) : Sat r' x := fun a ha => hs a (h a ha)
theorem canE_mono {a : AM} {r r' : List AM} (h : ∀ y, y ∈ r' → y ∈ r) (hc : canE a r = false) : canE a r' = false := by
  unfold canE at *
  cases e : entB r' a with
  | false => rfl
  | true =>
    have : entB r a = true := entB_iff.2 fun x hx => entB_iff.1 e x (sat_subset h hx)
    rw [hc] at this
    cases this
theorem canS_mono {a : AM} {r r' : List AM} (h : ∀ y, y ∈ r' → y ∈ r) (hc : canS a r = false) : canS a r' = false := by
  unfold canS at *
  have h1 : possB r = true := by simpa using hc
  obtain ⟨x, hx⟩ := possB_iff.1 h1
  have : possB r' = true := possB_iff.2 ⟨x, sat_subset h hx⟩
  rw [this]
  rfl
theorem keep_sorted (can : AM → List AM → Bool) (l : List AM) (n : Nat) : (keepFrom can l n).Pairwise (· < ·) := by
  induction n with
  | zero =>
    show (upto l.length).Pairwise (· < ·)
    unfold upto
    rw [List.pairwise_map]
    exact List.pairwise_lt_range.imp fun h => by
      show Int.ofNat _ < Int.ofNat _
      exact Int.ofNat_lt.2 h
  | succ n ih =>
    rw [keepFrom_succ]
    unfold keepStep
    split
    · unfold drop
      exact ih.filter _
    · exact ih
/-- What is left cannot be left out. -/
theorem keep_tight {can : AM → List AM → Bool} (mono : ∀ a r r', (∀ y, y ∈ r' → y ∈ r) → can a r = false → can a r' = false) (l : List AM) (n : Nat) :
    ∀ j : Nat, j < n → (j : Int) ∈ keepFrom can l n → can (lAt l j) (pick l (drop (keepFrom can l n) j)) = false := by
  induction n with
  | zero => intro j hj; exact absurd hj (Nat.not_lt_zero j)
  | succ n ih =>
    intro j hj hm
    rw [keepFrom_succ] at hm ⊢
    unfold keepStep at hm ⊢
    by_cases hc : can (l.getD n am0) (pick l (drop (keepFrom can l n) n)) = true
    · rw [if_pos hc] at hm ⊢
      have hjn : j ≠ n := by
        rintro rfl
        unfold drop at hm
        have := (List.mem_filter.1 hm).2
        simp at this
      have hm' := drop_sub hm
      refine mono _ _ _ ?_ (ih j (by omega) hm')
      refine pick_subset fun k hk => ?_
      have h1 := drop_sub hk
      refine drop_mem (drop_sub h1) ?_
      rintro rfl
      unfold drop at hk
      have := (List.mem_filter.1 hk).2
      simp at this
    · rw [if_neg hc] at hm ⊢
      by_cases hjn : j = n
      · subst hjn
        have : can (lAt l j) (pick l (drop (keepFrom can l j) j)) = can (l.getD j am0) (pick l (drop (keepFrom can l j) j)) := by
          unfold lAt
          rw [Int.toNat_natCast]
        rw [this]
        simpa using hc
      · exact ih j (by omega) hm
/-- What is left entails all. -/
theorem needed_all (l : List AM) (n : Nat) (hn : n ≤ l.length) (x : Nat → Int) : Sat (pick l (keepFrom canE l n)) x ↔ Sat l x := by
  induction n with
  | zero => exact sat_upto
  | succ n ih =>
    rw [keepFrom_succ]
    unfold keepStep
    have ih := ih (by omega)
    by_cases hc : canE (l.getD n am0) (pick l (drop (keepFrom canE l n) n)) = true
    · rw [if_pos hc]
      constructor
      · intro h
        refine ih.1 (sat_pick.2 fun k hk => ?_)
        by_cases e : k = n
        · subst e
          unfold canE at hc
          have := entB_iff.1 hc x h
          unfold lAt
          rw [Int.toNat_natCast]
          exact this
        · exact sat_pick.1 h k (drop_mem hk e)
      · intro h
        exact sat_subset (pick_subset fun k hk => drop_sub hk) (ih.2 h)
    · rw [if_neg hc]
      exact ih
theorem core_none (l : List AM) (h0 : possB l = false) (n : Nat) : possB (pick l (keepFrom canS l n)) = false := by
  induction n with
  | zero =>
    cases e : possB (pick l (keepFrom canS l 0)) with
    | false => rfl
    | true =>
      obtain ⟨x, hx⟩ := possB_iff.1 e
      have := possB_iff.2 ⟨x, sat_upto.1 hx⟩
      rw [h0] at this
      cases this
  | succ n ih =>
    rw [keepFrom_succ]
    unfold keepStep
    by_cases hc : canS (l.getD n am0) (pick l (drop (keepFrom canS l n) n)) = true
    · rw [if_pos hc]
      have hc' : (!possB (pick l (drop (keepFrom canS l n) n))) = true := hc
      simpa using hc'
    · rw [if_neg hc]
      exact ih
theorem keep_range {can : AM → List AM → Bool} {l : List AM} {k : Int} (h : k ∈ keep can l) : 0 ≤ k ∧ k < l.length := (keepFrom_mem can l l.length k).1 h
/-- Without its place i, an increasing list is without its value there. -/
theorem eraseIdx_drop {ks : List Int} (h : ks.Pairwise (· < ·)) {i : Nat} (hi : i < ks.length) : ks.eraseIdx i = drop ks ks[i] := by
  induction ks generalizing i with
  | nil => exact absurd hi (Nat.not_lt_zero i)
  | cons a ks ih =>
    obtain ⟨h1, h2⟩ := List.pairwise_cons.1 h
    cases i with
    | zero =>
      unfold drop
      simp only [List.eraseIdx_cons_zero, List.getElem_cons_zero, List.filter_cons]
      rw [if_neg (by simp)]
      refine (List.filter_eq_self.2 fun x hx => ?_).symm
      have := h1 x hx
      simp
      omega
    | succ i =>
      have hi' : i < ks.length := by simpa using hi
      have hlt := h1 _ (List.getElem_mem hi')
      unfold drop at ih ⊢
      simp only [List.eraseIdx_cons_succ, List.getElem_cons_succ, List.filter_cons]
      rw [if_pos (by simp; omega), ih h2 hi']
end Go.Proofs.Ytnjbahiaelehkaa
