/- What Pick of Fold and Look of Lay tell, and what colours and cliques are, in plain words. -/
import Derived.Test.YtliajnflmddnoaaP5
namespace Go.Proofs.Ytliajnflmddnoaa

theorem col_at {m : List (List Int)} {a : Nat} : ∀ {n : Nat}, a < n → (colL m n).getD a 0 = colAt m (colL m a) a
  | 0, h => absurd h (Nat.not_lt_zero _)
  | n + 1, h => by
    have hl := colL_length m n
    show (colL m n ++ [colAt m (colL m n) n]).getD a 0 = _
    by_cases e : a < n
    · rw [getD_left (by omega)]
      exact col_at e
    · obtain rfl : a = n := by omega
      have := getD_last (colL m a) (colAt m (colL m a) a) 0
      rwa [hl] at this
theorem col_proper {m : List (List Int)} {a b n : Nat} (hab : a < b) (hb : b < n) (h : clB m a b = true) : (colL m n).getD a 0 ≠ (colL m n).getD b 0 := by
  rw [col_at (show a < n by omega), col_at hb, ← col_at hab]
  intro e
  have h1 := (colAt_spec m b).2.1
  unfold freeC at h1
  have := List.all_eq_true.1 h1 a (List.mem_range.2 hab)
  rw [e, h] at this
  simp at this
theorem col_ne {m : List (List Int)} {a b n : Nat} (ha : a < n) (hb : b < n) (hab : a ≠ b) (h : clB m a b = true) : (colL m n).getD a 0 ≠ (colL m n).getD b 0 := by
  by_cases e : a < b
  · exact col_proper e hb h
  · exact (col_proper (by omega) ha (by rw [clB_comm]; exact h)).symm
theorem clash_row {m : List (List Int)} {i a b : Nat} (hi : i < m.length) (ha : nz (ent m i a) = true) (hb : nz (ent m i b) = true) : clB m a b = true := by
  unfold clB
  rw [List.any_eq_true]
  refine ⟨m[i], List.getElem_mem hi, ?_⟩
  unfold cl
  unfold ent at ha hb
  rw [getD_in hi] at ha hb
  rw [ha, hb]
  rfl
/-- What stands in a folded row. -/
theorem fold_at {l : List Nat} {n : Nat} {row : List Int} : ∀ (ks : List Nat), (∀ k, k ∈ ks → l.getD k 0 < n) → (∀ a b, a ∈ ks → b ∈ ks → a ≠ b → l.getD a 0 ≠ l.getD b 0) →
    (∀ k, k ∈ ks → (foldU l n row ks).getD (l.getD k 0) (-1, -1) = ((k : Int), row.getD k (-1))) ∧ ∀ c, (foldU l n row ks).getD c (-1, -1) = (-1, -1) ∨ ∃ k, k ∈ ks ∧ (foldU l n row ks).getD c (-1, -1) = ((k : Int), row.getD k (-1)) := by
  intro ks
  have key : ∀ r : Nat, ∀ ks : List Nat, ks.length = r → (∀ k, k ∈ ks → l.getD k 0 < n) → (∀ a b, a ∈ ks → b ∈ ks → a ≠ b → l.getD a 0 ≠ l.getD b 0) →
    (∀ k, k ∈ ks → (foldU l n row ks).getD (l.getD k 0) (-1, -1) = ((k : Int), row.getD k (-1))) ∧ ∀ c, (foldU l n row ks).getD c (-1, -1) = (-1, -1) ∨ ∃ k, k ∈ ks ∧ (foldU l n row ks).getD c (-1, -1) = ((k : Int), row.getD k (-1)) := by
    intro r
    induction r with
    | zero =>
      intro ks hr _ _
      obtain rfl := List.length_eq_zero_iff.1 hr
      refine ⟨fun k hk => (by cases hk), fun c => Or.inl ?_⟩
      unfold foldU
      rw [List.foldl_nil, List.getD_eq_getElem?_getD, List.getElem?_replicate]
      split <;> rfl
    | succ r ih =>
      intro ks hr h1 h2
      rcases List.eq_nil_or_concat ks with rfl | ⟨ks, j, rfl⟩
      · cases hr
      · rw [List.concat_eq_append] at *
        have hr' : ks.length = r := by rw [List.length_append] at hr; simp at hr; exact hr
        obtain ⟨q1, q2⟩ := ih ks hr' (fun k hk => h1 k (by simp [hk])) (fun a b ha hb => h2 a b (by simp [ha]) (by simp [hb]))
        have hj := h1 j (by simp)
        rw [foldU_append]
        have hset : ∀ c, ((foldU l n row ks).set (l.getD j 0) ((j : Int), row.getD j (-1))).getD c (-1, -1) = if l.getD j 0 = c then ((j : Int), row.getD j (-1)) else (foldU l n row ks).getD c (-1, -1) := fun c => set_at _ _ _ _ _ (by rw [foldU_length]; exact hj)
        constructor
        · intro k hk
          rw [hset]
          by_cases e : k = j
          · subst e
            rw [if_pos rfl]
          · rw [if_neg (h2 j k (by simp) hk (fun h => e h.symm))]
            rcases List.mem_append.1 hk with hk | hk
            · exact q1 k hk
            · exact absurd (List.mem_singleton.1 hk) e
        · intro c
          rw [hset]
          by_cases e : l.getD j 0 = c
          · rw [if_pos e]
            exact .inr ⟨j, by simp, rfl⟩
          · rw [if_neg e]
            rcases q2 c with h | ⟨k, hk, h⟩
            · exact .inl h
            · exact .inr ⟨k, by simp [hk], h⟩
  exact key ks.length ks rfl
theorem RightM.row' {m : List (List Int)} (h : RightM m) {i : Nat} (hi : i < m.length) : (m.getD i []).length = colsN m := by rw [getD_in hi]; exact h.len i hi
theorem fold_pick {m : List (List Int)} (hm : RightM m) {i k : Nat} (hi : i < m.length) (hk : k < colsN m) : pickE (foldC m) (foldV m) i k = 0 ∧ pickV (foldC m) (foldV m) i k = ent m i k := by
  have hC : foldC m = (colL m (colsN m)).map Int.ofNat := if_pos hm.chk
  have hG : foldV m = foldG m := if_pos hm.chk
  have hgl : (foldG m).length = m.length := by unfold foldG; rw [List.length_map]
  have hcl : ((colL m (colsN m)).map Int.ofNat).length = colsN m := by rw [List.length_map, colL_length]
  have hrow := hm.row' hi
  have hpR : pkR (foldG m) (i : Int) = foldRow (colL m (colsN m)) (manyC (colL m (colsN m))) (m.getD i []) := by
    unfold pkR foldG
    rw [Int.toNat_natCast, List.getD_eq_getElem?_getD, List.getElem?_map, List.getElem?_eq_getElem hi, getD_in hi]
    rfl
  have hpK : pkK ((colL m (colsN m)).map Int.ofNat) (k : Int) = ((colL m (colsN m)).getD k 0 : Nat) := by
    unfold pkK
    rw [Int.toNat_natCast, List.getD_eq_getElem?_getD, List.getElem?_map, List.getD_eq_getElem?_getD, List.getElem?_eq_getElem (by rw [colL_length]; exact hk)]
    rfl
  have hlt := col_lt (m := m) hk
  have hin : inRC ((colL m (colsN m)).map Int.ofNat) (foldG m) (i : Int) (k : Int) = true := by
    unfold inRC
    rw [hgl, hcl]
    simp
    omega
  have hE : pickE (foldC m) (foldV m) i k = 0 := by
    rw [hC, hG]
    unfold pickE
    rw [if_pos hin, hpK, hpR, if_pos]
    unfold foldRow
    rw [foldU_length]
    omega
  refine ⟨hE, ?_⟩
  unfold pickV
  rw [if_pos hE, hC, hG]
  unfold pkO
  rw [hpR, hpK, Int.toNat_natCast]
  have hnz : ∀ a, a ∈ fullL (m.getD i []) → nz (ent m i a) = true ∧ a < colsN m := fun a ha => by
    have h := mem_full.1 ha
    exact ⟨h, by rw [← hrow]; exact nz_lt h⟩
  obtain ⟨f1, f2⟩ := fold_at (l := colL m (colsN m)) (n := manyC (colL m (colsN m))) (row := m.getD i []) (fullL (m.getD i [])) (fun a ha => col_lt (hnz a ha).2) (fun a b ha hb hab => col_ne (hnz a ha).2 (hnz b hb).2 hab (clash_row hi (hnz a ha).1 (hnz b hb).1))
  unfold foldRow
  cases hn : nz (ent m i k) with
  | true =>
    rw [f1 k (mem_full.2 hn), if_pos rfl]
    rfl
  | false =>
    have he : ent m i k = -1 := by simpa [nz] using hn
    rw [he]
    split
    · rename_i hc
      rcases f2 ((colL m (colsN m)).getD k 0) with h | ⟨a, ha, h⟩
      · rw [h] at hc
        simp at hc
      · rw [h] at hc
        obtain rfl : a = k := by simp only at hc; omega
        rw [(hnz a ha).1] at hn
        cases hn
    · rfl
theorem look_lay {m : List (List Int)} (hm : RightM m) {i k : Nat} (hi : i < m.length) (hk : k < colsN m) : lookE (layR m) i k = 0 ∧ lookV (layR m) i k = ent m i k := by
  have hc := (lay_right hm).chk
  obtain ⟨s, h1, _⟩ := lay_st hm hi
  have hsl : (layR m).starts.length = m.length := (lay_inv hm).len
  have hh : hasE (layR m) i = 0 := by
    unfold hasE
    rw [if_pos hc, Int.toNat_natCast, h1, hsl, if_pos (by omega)]
  have he : lookE (layR m) i k = 0 := by
    unfold lookE
    rw [if_pos hh, if_pos]
    refine ⟨by omega, ?_⟩
    show (k : Int) < (colsN m : Int)
    omega
  refine ⟨he, ?_⟩
  unfold lookV
  rw [if_pos he, Int.toNat_natCast, Int.toNat_natCast, lay_look hm hi]
theorem back_lay {m : List (List Int)} (hm : RightM m) : backV (layR m) = m := by
  unfold backV
  rw [if_pos (lay_right hm).chk, lay_back hm]
end Go.Proofs.Ytliajnflmddnoaa
