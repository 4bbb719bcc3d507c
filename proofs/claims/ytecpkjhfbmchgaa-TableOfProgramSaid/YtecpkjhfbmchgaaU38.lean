/- The tables of a right program are a right matrix. -/
import Derived.Test.YtecpkjhfbmchgaaU37
import Derived.Test.YtecpkjhfbmchgaaP1
namespace Go.Proofs.Ytecpkjhfbmchgaa
open Go.RowKit

theorem lay_fit {m : List (List Int)} (hm : RightM m) (h12 : m.length ≤ 12) : (layR m).starts.length = m.length ∧ (layR m).cells.length ≤ 4800 ∧ Fit (layR m) := by
  have h := lay_inv hm
  have h1 : (layR m).starts.length = m.length := h.len
  have h2 : (layR m).cells.length ≤ 4800 := by
    have h3 := h.size
    rw [order_length hm] at h3
    have : m.length * colsN m ≤ 12 * 400 := Nat.mul_le_mul h12 hm.cols
    exact Nat.le_trans h3 this
  exact ⟨h1, h2, by omega, by omega⟩
theorem chkM_zero {m : List (List Int)} (h : RightM m) : chkM m = 0 := by
  unfold chkM
  have hl : m.any longB = false := by
    rw [List.any_eq_false]
    intro r hr
    obtain ⟨i, hi, rfl⟩ := List.getElem_of_mem hr
    unfold longB
    rw [h.len i hi, decide_eq_false (by have := h.cols; omega)]
    decide
  rw [if_neg (by rw [hl]; have := h.rows; simp; omega), if_neg (by have := h.some'; omega), if_pos ?_]
  rw [List.all_eq_true]
  intro r hr
  obtain ⟨i, hi, rfl⟩ := List.getElem_of_mem hr
  unfold evenB
  rw [h.len i hi]
  simp only [beq_self_eq_true, Bool.true_and, List.all_eq_true]
  exact h.ent i hi
theorem tables_at {p : PrgN} {i : Nat} (h : i < (tablesOf p).length) : (tablesOf p)[i] = (p.shapes[i]'(by rw [tables_length] at h; exact h)).table := by simp only [tablesOf, List.getElem_map]
/-- What a program without an error is like. -/
structure PgRight (p : PrgN) : Prop where
  some' : 0 < p.shapes.length
  shp : ∀ k, k < p.shapes.length → shpE p k = 0
theorem chkP_right {p : PrgN} (h : (chkP p).1 = 0) : PgRight p := by
  rw [chkP_eq] at h
  split at h
  · cases h
  · split at h
    · cases h
    · rename_i h2
      split at h
      · rename_i h3
        obtain ⟨i, hi, e, hp, _⟩ := idxP_pos h3
        unfold selI at h
        rw [e, show ((i : Int)).toNat = i from rfl, getD_in hi] at h
        simp only at h
        rw [h] at hp
        cases hp
      · split at h
        · rename_i h4
          obtain ⟨i, hi, e, hp, _⟩ := idxP_pos h4
          unfold shpI at h
          rw [e, show ((i : Int)).toNat = i from rfl] at h
          rw [List.getElem_range] at hp
          simp only at h
          rw [h] at hp
          cases hp
        · rename_i h4
          refine ⟨?_, fun k hk => ?_⟩
          · unfold zeroB at h2
            simp at h2
            exact List.length_pos_iff.2 h2.1
          · have := (idxP_neg h4).2 k (List.mem_range.2 hk)
            simpa using this
theorem entry_right {p : PrgN} {s : ShpN} {o : SelN} {e : Int} (h : entryB p s o e = true) (hu : p.units.length ≤ 10000) (hf : s.fields.length ≤ 60) : rightB e = true := by
  unfold entryB at h
  unfold rightB thereB
  split at h
  · rename_i h1
    rw [h1]
    rfl
  · split at h
    · simp at h
      simp
      omega
    · simp at h
      simp
      omega
theorem shp_right {p : PrgN} {k : Nat} (hk : k < p.shapes.length) (h : shpE p k = 0) : p.shapes[k].fields.length ≤ 60 ∧ p.shapes[k].table.length = p.sels.length ∧ ∀ j, j < p.shapes[k].table.length → entryBad p p.shapes[k] j = false := by
  have hl := shp_len hk h
  rw [shpE_eq hk] at h
  unfold shpS at h
  split at h
  · cases h
  · split at h
    · cases h
    · split at h
      · cases h
      · rename_i h3
        split at h
        · cases h
        · split at h
          · cases h
          · rename_i h5
            refine ⟨by omega, hl, fun j hj => ?_⟩
            cases hb : entryBad p p.shapes[k] j with
            | false => rfl
            | true => exact absurd (any_range hj hb) h5
theorem mx_right {p : PrgN} (h : (chkP p).1 = 0) (h6 : p.shapes.length ≤ 6) (h30 : p.sels.length ≤ 30) (h12 : p.units.length ≤ 12) : RightM (tablesOf p) ∧ colsN (tablesOf p) = p.sels.length := by
  have hp := chkP_right h
  have hlen : ∀ i (hi : i < (tablesOf p).length), (tablesOf p)[i].length = p.sels.length := by
    intro i hi
    rw [tables_at hi]
    rw [tables_length] at hi
    exact (shp_right hi (hp.shp i hi)).2.1
  have hc : colsN (tablesOf p) = p.sels.length := by
    have h0 : 0 < (tablesOf p).length := by rw [tables_length]; exact hp.some'
    have := hlen 0 h0
    unfold colsN
    cases ht : tablesOf p with
    | nil => rw [ht] at h0; cases h0
    | cons r m => simp only [ht] at this; exact this
  refine ⟨⟨by rw [tables_length]; omega, by rw [tables_length]; exact hp.some', by rw [hc]; omega, fun i hi => by rw [hlen i hi, hc], fun i hi e he => ?_⟩, hc⟩
  rw [tables_at hi] at he
  rw [tables_length] at hi
  obtain ⟨hf, hl, hb⟩ := shp_right hi (hp.shp i hi)
  obtain ⟨j, hj, rfl⟩ := List.getElem_of_mem he
  have h1 := hb j hj
  unfold entryBad at h1
  rw [getD_in (by rw [← hl]; exact hj), getD_in hj] at h1
  exact entry_right (by simpa using h1) (by omega) hf
end Go.Proofs.Ytecpkjhfbmchgaa
