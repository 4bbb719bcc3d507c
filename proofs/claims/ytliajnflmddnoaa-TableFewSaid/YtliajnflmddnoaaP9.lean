/- Few colours, in plain words: how many a colouring has, how many columns clash with each other. -/
import Derived.Test.YtliajnflmddnoaaG21
import Derived.Test.YtliajnflmddnoaaP6
namespace Go.Proofs.Ytliajnflmddnoaa

/-- As many different things as another list has, and all of them in it. -/
theorem nodup_le {α : Type} [BEq α] [LawfulBEq α] : ∀ {l l' : List α}, l.Nodup → (∀ x, x ∈ l → x ∈ l') → l.length ≤ l'.length
  | [], _, _, _ => Nat.zero_le _
  | a :: l, l', hn, hs => by
    obtain ⟨ha, hn'⟩ := List.nodup_cons.1 hn
    have h1 : a ∈ l' := hs a (List.mem_cons_self ..)
    have h2 := nodup_le (l' := l'.erase a) hn' (fun x hx => (List.mem_erase_of_ne (fun e => ha (by rw [← e]; exact hx))).2 (hs x (List.mem_cons_of_mem _ hx)))
    rw [List.length_erase_of_mem h1] at h2
    have : 0 < l'.length := List.length_pos_of_mem h1
    simp only [List.length_cons]
    omega
theorem map_nodup {α β : Type} {f : α → β} : ∀ {l : List α}, l.Nodup → (∀ a b, a ∈ l → b ∈ l → a ≠ b → f a ≠ f b) → (l.map f).Nodup
  | [], _, _ => List.nodup_nil
  | a :: l, hn, hf => by
    obtain ⟨ha, hn'⟩ := List.nodup_cons.1 hn
    rw [List.map_cons, List.nodup_cons]
    refine ⟨fun h => ?_, map_nodup hn' fun x y hx hy => hf x y (List.mem_cons_of_mem _ hx) (List.mem_cons_of_mem _ hy)⟩
    obtain ⟨b, hb, e⟩ := List.mem_map.1 h
    exact hf b a (List.mem_cons_of_mem _ hb) (List.mem_cons_self ..) (fun e' => ha (e' ▸ hb)) e
theorem clashIs_in {m : List (List Int)} (hm : RightM m) {a b : Nat} (ha : a < colsN m) (hb : b < colsN m) : clashE m a b = 0 ∧ clashIs m a b = clB m a b := by
  have h : clashE m a b = 0 := by
    unfold clashE inC
    rw [if_pos hm.chk, if_pos]
    simp
    omega
  refine ⟨h, ?_⟩
  unfold clashIs
  rw [h, Int.toNat_natCast, Int.toNat_natCast, clashM_clB]
  rfl
theorem colV_ok {m : List (List Int)} (hm : RightM m) : chkC m (colV m) = 0 := by
  have hv : colV m = asI (colL m (colsN m)) := if_pos hm.chk
  have hl : (colV m).length = colsN m := by rw [hv, asI_length, colL_length]
  have hat : ∀ b, b < colsN m → (colV m).getD b (-1) = ((colL m (colsN m)).getD b 0 : Nat) := fun b hb => by
    rw [getD_in (by omega)]
    have hb' : b < (asI (colL m (colsN m))).length := by rw [asI_length, colL_length]; exact hb
    have := asI_at hb'
    simp only [hv]
    exact this
  unfold chkC
  rw [if_pos hm.chk, if_pos hl, if_pos]
  unfold colOkU
  rw [List.all_eq_true]
  intro b hb
  have hb' := List.mem_range.1 hb
  rw [hl] at hb'
  unfold colOkAt
  have h1 := colL_le m (colsN m) b hb'
  have h2 := hm.cols
  rw [hat b hb']
  simp only [Bool.and_eq_true, decide_eq_true_eq]
  refine ⟨⟨by omega, by omega⟩, ?_⟩
  unfold apartU
  rw [List.all_eq_true]
  intro a ha
  have ha' := List.mem_range.1 ha
  rw [hat a (by omega), hat b hb']
  cases hc : clB m a b with
  | false => simp
  | true =>
    have h3 := col_proper (n := colsN m) ha' hb' hc
    have h4 : (((colL m (colsN m)).getD a 0 : Nat) : Int) ≠ ((colL m (colsN m)).getD b 0 : Nat) := by omega
    rw [beq_eq_false_iff_ne.2 h4]
    rfl
theorem clique_in {m : List (List Int)} (hm : RightM m) {a : Nat} (ha : a ∈ cliqueL m) : a < colsN m ∧ nz (ent m (bestR m) a) = true := by
  have h := mem_fullL.1 ha
  rw [hm.row' (best_lt hm)] at h
  exact h
theorem clique_clash {m : List (List Int)} (hm : RightM m) {a b : Nat} (ha : a ∈ cliqueL m) (hb : b ∈ cliqueL m) : clB m a b = true :=
  clash_row (best_lt hm) (clique_in hm ha).2 (clique_in hm hb).2
theorem clique_nodup (m : List (List Int)) : (cliqueL m).Nodup := by
  unfold cliqueL fullL fullU
  exact List.nodup_range.filter _
/-- There are at least as many colours as columns that clash with each other. -/
theorem clique_le {m : List (List Int)} (hm : RightM m) : (cliqueL m).length ≤ manyC (colL m (colsN m)) := by
  have h := nodup_le (l := (cliqueL m).map fun k => (colL m (colsN m)).getD k 0) (l' := List.range (manyC (colL m (colsN m)))) (map_nodup (clique_nodup m) fun a b ha hb hab => col_ne (clique_in hm ha).1 (clique_in hm hb).1 hab (clique_clash hm ha hb)) (fun x hx => by
    obtain ⟨k, hk, rfl⟩ := List.mem_map.1 hx
    exact List.mem_range.2 (col_lt (clique_in hm hk).1))
  rwa [List.length_map, List.length_range] at h

/-- How many of the first columns clash with another one. -/
def othB (m : List (List Int)) (b a : Nat) : Bool := clB m a b && a != b
def othU (m : List (List Int)) (b : Nat) : Nat → Nat
  | 0 => 0
  | a + 1 => if othB m b a = true then othU m b a + 1 else othU m b a
def mostU (m : List (List Int)) : Nat → Nat
  | 0 => 0
  | b + 1 => max (mostU m b) (othU m b (colsN m))
theorem othU_le (m : List (List Int)) (b : Nat) : ∀ a, othU m b a ≤ a
  | 0 => Nat.le_refl _
  | a + 1 => by
    have := othU_le m b a
    unfold othU
    split <;> omega
theorem othU_is (m : List (List Int)) (b : Nat) : ∀ a, othU m b a = ((List.range a).filter (othB m b)).length
  | 0 => rfl
  | a + 1 => by
    unfold othU
    rw [List.range_succ, List.filter_append, List.length_append, ← othU_is m b a]
    split
    · rename_i h
      rw [List.filter_cons_of_pos h]
      rfl
    · rename_i h
      rw [List.filter_cons_of_neg h]
      rfl
theorem mostU_le (m : List (List Int)) : ∀ b, mostU m b ≤ colsN m
  | 0 => Nat.zero_le _
  | b + 1 => by
    have := mostU_le m b
    have := othU_le m b (colsN m)
    unfold mostU
    omega
theorem mostU_ge (m : List (List Int)) : ∀ n b, b < n → othU m b (colsN m) ≤ mostU m n
  | n + 1, b, h => by
    unfold mostU
    by_cases e : b = n
    · subst e; omega
    · have := mostU_ge m n b (by omega)
      omega
theorem col_oth {m : List (List Int)} {b : Nat} (hb : b < colsN m) : colAt m (colL m b) b ≤ othU m b (colsN m) := by
  rw [othU_is]
  have h := nodup_le (l := List.range (colAt m (colL m b) b)) (l' := ((List.range (colsN m)).filter (othB m b)).map fun a => (colL m b).getD a 0) List.nodup_range (fun c hc => by
    have hf := (colAt_spec m b).2.2 c (List.mem_range.1 hc)
    unfold freeC at hf
    rw [List.all_eq_false] at hf
    obtain ⟨a, ha, h1⟩ := hf
    have ha' := List.mem_range.1 ha
    simp only [Bool.not_eq_true, Bool.not_eq_false', Bool.and_eq_true, beq_iff_eq] at h1
    refine List.mem_map.2 ⟨a, List.mem_filter.2 ⟨List.mem_range.2 (by omega), ?_⟩, h1.1⟩
    unfold othB
    rw [h1.2]
    simp
    omega)
  rwa [List.length_range, List.length_map] at h
theorem many_le {m : List (List Int)} {M : Nat} : ∀ n, (∀ b, b < n → colAt m (colL m b) b ≤ M) → manyC (colL m n) ≤ M + 1
  | 0, _ => Nat.zero_le _
  | n + 1, h => by
    have h1 := many_le n fun b hb => h b (by omega)
    have h2 := h n (by omega)
    show manyC (colL m n ++ [_]) ≤ _
    rw [manyC_append]
    omega
/-- There is at most one colour more than the most columns with which one clashes. -/
theorem many_most (m : List (List Int)) : manyC (colL m (colsN m)) ≤ mostU m (colsN m) + 1 :=
  many_le _ fun b hb => Nat.le_trans (col_oth hb) (mostU_ge m _ b hb)
/-- A colouring that is accepted has at least as many colours as columns that clash with each other. -/
theorem used_ge {m : List (List Int)} (hm : RightM m) {l : List Int} (h : chkC m l = 0) : l.length = colsN m ∧ ∀ u : List Int, (∀ x, x ∈ l → x ∈ u) → (cliqueL m).length ≤ u.length := by
  unfold chkC at h
  rw [if_pos hm.chk] at h
  split at h
  · rename_i hl
    refine ⟨hl, fun u hu => ?_⟩
    split at h
    · rename_i ho
      have hne : ∀ a b, a < b → b < colsN m → clB m a b = true → l.getD a (-1) ≠ l.getD b (-1) := fun a b hab hb hc => by
        have h1 := List.all_eq_true.1 ho b (List.mem_range.2 (by omega))
        unfold colOkAt at h1
        simp only [Bool.and_eq_true] at h1
        have h2 := List.all_eq_true.1 h1.2 a (List.mem_range.2 hab)
        rw [hc] at h2
        simp at h2
        exact h2
      have h := nodup_le (l := (cliqueL m).map fun k => l.getD k (-1)) (l' := u) (map_nodup (clique_nodup m) fun a b ha hb hab => by
        have hc := clique_clash hm ha hb
        have h1 := (clique_in hm ha).1
        have h2 := (clique_in hm hb).1
        by_cases e : a < b
        · exact hne a b e h2 hc
        · exact (hne b a (by omega) h1 (by rw [clB_comm]; exact hc)).symm) (fun x hx => by
        obtain ⟨k, hk, rfl⟩ := List.mem_map.1 hx
        have hk' := (clique_in hm hk).1
        refine hu _ ?_
        rw [getD_in (by omega)]
        exact List.getElem_mem _)
      rwa [List.length_map] at h
    · cases h
  · cases h
end Go.Proofs.Ytliajnflmddnoaa
