/- What the checks of a unit say of it, one by one. -/
import Derived.Test.YtecpkjhfbmchgaaU18
namespace Go.Proofs.Ytecpkjhfbmchgaa
open Go.RowKit

theorem sizes_fit {u : UntN} (h : sizesN u = 0) : (0 ≤ u.args ∧ u.args ≤ 16) ∧ (1 ≤ u.slots ∧ u.slots ≤ 200) ∧ (0 ≤ u.frame ∧ u.frame ≤ 200) ∧ (0 < u.code.length ∧ u.code.length ≤ 600) ∧ u.guards.length ≤ 40 ∧ u.args ≤ roomN u := by
  unfold sizesN at h
  split at h
  · cases h
  · rename_i h1
    split at h
    · cases h
    · rename_i h2
      omega
theorem idxP_neg {α : Type} {p : α → Bool} {l : List α} (h : ¬ 0 ≤ idxP p l) : idxP p l = -1 ∧ ∀ x, x ∈ l → p x = false := by
  have h1 := (idxP_lt p l).1
  refine ⟨by omega, fun x hx => ?_⟩
  have h2 := idxP_any p l
  rw [decide_eq_false h] at h2
  have h3 := List.any_eq_false.1 h2.symm x hx
  simpa using h3
theorem idxP_pos {α : Type} {p : α → Bool} {l : List α} (h : 0 ≤ idxP p l) : ∃ i : Nat, ∃ hi : i < l.length, idxP p l = i ∧ p l[i] = true ∧ ∀ x, x ∈ l.take i → p x = false := by
  unfold idxP at h ⊢
  cases hf : l.findIdx? p with
  | none =>
    rw [hf] at h
    exact absurd h (by show ¬ (0 : Int) ≤ -1; omega)
  | some i =>
    obtain ⟨hi, hp, hn⟩ := List.findIdx?_eq_some_iff_getElem.1 hf
    refine ⟨i, hi, rfl, hp, fun x hx => ?_⟩
    obtain ⟨j, hj, rfl⟩ := List.mem_iff_getElem.1 hx
    rw [List.length_take] at hj
    rw [List.getElem_take]
    have := hn j (by omega)
    simpa using this
theorem right_of {p : PrgN} {u : UntN} (h : ¬ 0 ≤ wrongE p u) {i : InsN} (hi : i ∈ u.code) : rightN p u i = true := by
  have := (idxP_neg h).2 i hi
  unfold wrongB at this
  simpa using this
theorem right_fits {p : PrgN} {u : UntN} {i : InsN} (h : rightN p u i = true) : opOk i.op = true ∧ fits3 p u i 0 = true ∧ fits3 p u i 1 = true ∧ fits3 p u i 2 = true ∧ callOk p i = true := by
  unfold rightN at h
  simp only [Bool.and_eq_true] at h
  exact ⟨h.1.1, h.1.2.1.1, h.1.2.1.2, h.1.2.2, h.2⟩
theorem fits_place {p : PrgN} {u : UntN} {n : Int} (h : fitsN p u 3 n = true) : 0 ≤ n ∧ n < u.code.length := by
  unfold fitsN at h
  rw [if_neg (by decide), if_neg (by decide), if_neg (by decide), if_pos rfl] at h
  unfold inN at h
  simp at h
  omega
theorem fits_sel {p : PrgN} {u : UntN} {k n : Int} (hk : 7 ≤ k ∧ k ≤ 9) (h : fitsN p u k n = true) : 0 ≤ n ∧ n < p.sels.length := by
  unfold fitsN at h
  rw [if_neg (by omega), if_neg (by omega), if_neg (by omega), if_neg (by omega), if_neg (by omega), if_neg (by omega), if_neg (by omega), if_neg (by omega), if_neg (by omega), if_neg (by omega)] at h
  split at h
  · rename_i h1
    unfold inN at h1
    simp at h1
    omega
  · cases h
theorem call_sel {p : PrgN} {u : UntN} {i : InsN} (h : rightN p u i = true) (hc : callB i = true) : 0 ≤ callC i ∧ callC i < p.sels.length := by
  obtain ⟨_, h0, h1, h2, _⟩ := right_fits h
  unfold callB at hc
  by_cases h20 : i.op = 20
  · unfold callC
    rw [if_pos h20]
    exact call_in h20 h2
  · have h22 : i.op = 22 := by simpa [h20] using hc
    unfold callC
    rw [if_neg h20, if_pos h22]
    unfold fits3 at h1
    have e : hasN (formL i.op) 1 = 9 := by rw [h22]; rfl
    rw [e] at h1
    exact fits_sel (by omega) h1
theorem places_in {p : PrgN} {u : UntN} {i : InsN} (h : rightN p u i = true) : ∀ x, x ∈ placesL i → 0 ≤ x ∧ x < u.code.length := by
  intro x hx
  obtain ⟨_, h0, h1, h2, _⟩ := right_fits h
  unfold placesL at hx
  obtain ⟨k, hk, rfl⟩ := List.mem_map.1 hx
  obtain ⟨hr, he⟩ := List.mem_filter.1 hk
  have hk3 := List.mem_range.1 hr
  have he3 : hasN (formL i.op) k = 3 := by simpa using he
  unfold fits3 at h0 h1 h2
  rcases (show k = 0 ∨ k = 1 ∨ k = 2 by omega) with rfl | rfl | rfl
  · rw [he3] at h0; exact fits_place h0
  · rw [he3] at h1; exact fits_place h1
  · rw [he3] at h2; exact fits_place h2
theorem leads_in {p : PrgN} {u : UntN} (hw : ¬ 0 ≤ wrongE p u) (hg : ¬ 0 ≤ grdE u) {t : Nat} (ht : t < u.code.length) : ∀ x, x ∈ leadsL u t → 0 ≤ x.1 ∧ x.1 < u.code.length := by
  intro x hx
  unfold leadsL at hx
  rw [getD_in ht] at hx
  rcases List.mem_append.1 hx with hx | hx
  · rcases List.mem_append.1 hx with hx | hx
    · split at hx
      · rename_i h
        rw [List.mem_singleton.1 hx]
        simp at h
        exact ⟨by show (0 : Int) ≤ (t : Int) + 1; omega, by show (t : Int) + 1 < _; omega⟩
      · cases hx
    · obtain ⟨y, hy, rfl⟩ := List.mem_map.1 hx
      exact places_in (right_of hw (List.getElem_mem ht)) y hy
  · split at hx
    · rename_i h
      simp at h
      obtain ⟨m, hm⟩ : ∃ m : Nat, guardL u t = m := ⟨(guardL u t).toNat, by omega⟩
      have hlt : m < u.guards.length := by
        have h1 := (idxP_lt (guardIn t) u.guards).2
        unfold guardL at hm
        omega
      rw [hm, show ((m : Int)).toNat = m from rfl, getD_in hlt] at hx
      rw [List.mem_singleton.1 hx]
      have hb := (idxP_neg hg).2 u.guards[m] (List.getElem_mem hlt)
      unfold grdBad at hb
      simp only [Bool.or_eq_false_iff, Bool.not_eq_false'] at hb
      have := (inN_iff _ _ _).1 hb.2
      exact ⟨this.1, by show u.guards[m].at' < _; omega⟩
    · cases hx
end Go.Proofs.Ytecpkjhfbmchgaa
