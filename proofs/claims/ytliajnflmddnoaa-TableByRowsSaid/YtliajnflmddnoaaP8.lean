/- Rows that are inserted one by one, in the order of Lay, in plain words. -/
import Derived.Test.YtliajnflmddnoaaP7
namespace Go.Proofs.Ytliajnflmddnoaa

theorem layF_keep {m : List (List Int)} : ∀ (l2 : List Nat) (st : List Int × List (Int × Int)) (j : Nat), j ∉ l2 → (l2.foldl (layStep m) st).1.getD j (-1) = st.1.getD j (-1)
  | [], _, _, _ => rfl
  | i :: l2, st, j, h => by
    rw [List.foldl_cons, layF_keep l2 (layStep m st i) j (fun hj => h (List.mem_cons_of_mem _ hj))]
    have hne : i ≠ j := fun e => h (e ▸ List.mem_cons_self ..)
    unfold layStep
    show (st.1.set i _).getD j (-1) = _
    rw [List.getD_eq_getElem?_getD, List.getElem?_set_ne hne, List.getD_eq_getElem?_getD]
/-- Where Lay lays the row that stands at a place of its order. -/
theorem lay_start {m : List (List Int)} (hm : RightM m) {k : Nat} (hk : k < m.length) :
    (orderL m).getD k 0 < m.length ∧ (layR m).st ((orderL m).getD k 0) = (startN (layU m ((orderL m).take k)).2 (m.getD ((orderL m).getD k 0) []) : Nat) := by
  have hl := order_length hm
  have hk' : k < (orderL m).length := by omega
  rw [getD_in hk']
  have ho : (orderL m)[k] < m.length := (order_mem hm).1 (List.getElem_mem hk')
  refine ⟨ho, ?_⟩
  have hs : orderL m = (orderL m).take k ++ (orderL m)[k] :: (orderL m).drop (k + 1) := by
    rw [← List.drop_eq_getElem_cons hk', List.take_append_drop]
  have hn := bef_nodup (order_pair m)
  have hd : (orderL m)[k] ∉ (orderL m).drop (k + 1) := by
    rw [hs] at hn
    exact (List.nodup_cons.1 (List.nodup_append.1 hn).2.1).1
  have e1 : (layR m).st (orderL m)[k] = (layL m).1.getD (orderL m)[k] (-1) := rfl
  have e2 : layL m = ((orderL m).drop (k + 1)).foldl (layStep m) (layStep m (layU m ((orderL m).take k)) (orderL m)[k]) := by
    unfold layL layU
    conv => lhs; rw [hs]
    rw [List.foldl_append, List.foldl_cons]
  rw [e1, e2, layF_keep _ _ _ hd]
  unfold layStep
  have hi := layU_inv hm (l := (orderL m).take k) (hn.sublist (List.take_sublist _ _)) (fun i hi => (order_mem hm).1 (List.mem_of_mem_take hi))
  rw [set_at _ _ _ _ _ (by rw [hi.len]; exact ho), if_pos rfl]

/-- The first k rows of the order are inserted. -/
structure BR (m : List (List Int)) (k : Nat) (N : Ld) : Prop where
  right : RightL N
  cols : N.cols = colsN m
  len : N.starts.length = k
  cl : N.cells.length = (layU m ((orderL m).take k)).2.length
  oc : ∀ p, occ N.cells p = occ (layU m ((orderL m).take k)).2 p
theorem BR.start {m : List (List Int)} (hm : RightM m) : BR m 0 ⟨colsN m, [], []⟩ :=
  ⟨⟨Nat.zero_le _, Nat.zero_le _, by show (0 : Int) ≤ (colsN m : Int); omega, by show (colsN m : Int) ≤ 400; have := hm.cols; omega, fun i hi => absurd hi (Nat.not_lt_zero _), fun i hi => absurd hi (Nat.not_lt_zero _)⟩, rfl, rfl, rfl, fun _ => rfl⟩
theorem BR.step {m : List (List Int)} (hm : RightM m) {k : Nat} {N : Ld} (h : BR m k N) (hk : k < m.length) :
    insE N (m.getD ((orderL m).getD k 0) []) = 0 ∧ insAt N (m.getD ((orderL m).getD k 0) []) = k ∧ (insV N (m.getD ((orderL m).getD k 0) [])).starts.getD k (-1) = (layR m).st ((orderL m).getD k 0) ∧ BR m (k + 1) (insV N (m.getD ((orderL m).getD k 0) [])) := by
  obtain ⟨ho, hst⟩ := lay_start hm hk
  have hl := order_length hm
  have hk' : k < (orderL m).length := by omega
  have htk : (orderL m).take (k + 1) = (orderL m).take k ++ [(orderL m).getD k 0] := by rw [getD_in hk', take_last hk']
  have hrow : (m.getD ((orderL m).getD k 0) []).length = colsN m := hm.row' ho
  have hlu : layU m ((orderL m).take (k + 1)) = layStep m (layU m ((orderL m).take k)) ((orderL m).getD k 0) := by rw [htk, layU_append]
  have hn := bef_nodup (order_pair m)
  have hi1 := layU_inv hm (l := (orderL m).take (k + 1)) (hn.sublist (List.take_sublist _ _)) (fun i hi => (order_mem hm).1 (List.mem_of_mem_take hi))
  have hsz := hi1.size
  rw [hlu] at hsz
  have hsz2 : (putL (layU m ((orderL m).take k)).2 (m.getD ((orderL m).getD k 0) []) ((orderL m).getD k 0)).length ≤ 24000 := by
    refine Nat.le_trans hsz ?_
    have h1 : ((orderL m).take (k + 1)).length ≤ 60 := by
      rw [List.length_take]
      have := hm.rows
      omega
    exact Nat.mul_le_mul h1 hm.cols
  have hsn : startN N.cells (m.getD ((orderL m).getD k 0) []) = startN (layU m ((orderL m).take k)).2 (m.getD ((orderL m).getD k 0) []) := start_congr h.oc
  have hE : insE N (m.getD ((orderL m).getD k 0) []) = 0 := by
    rw [insE_of h.right]
    · rw [if_neg]
      rw [h.len]
      have := hm.rows
      omega
    · rw [hrow, h.cols]
    · intro e he
      rw [getD_in ho] at he
      exact hm.ent _ ho e he
    · rw [putL_length, hsn, h.cl]
      rw [putL_length] at hsz2
      omega
  obtain ⟨q1, q2⟩ := insV_of hE
  refine ⟨hE, by rw [q2, h.len], ?_, ?_⟩
  · rw [q1, hst]
    have := ins_own N (m.getD ((orderL m).getD k 0) [])
    rw [h.len, hsn] at this
    exact this
  · rw [q1]
    refine ⟨ins_right hE, h.cols, by rw [ins_len, h.len], ?_, fun p => ?_⟩
    · rw [hlu]
      show (putL N.cells (m.getD ((orderL m).getD k 0) []) _).length = (putL (layU m ((orderL m).take k)).2 (m.getD ((orderL m).getD k 0) []) _).length
      rw [putL_length, putL_length, hsn, h.cl]
    · rw [hlu]
      show occ (putL N.cells (m.getD ((orderL m).getD k 0) []) _) p = occ (putL (layU m ((orderL m).take k)).2 (m.getD ((orderL m).getD k 0) []) _) p
      rw [put_occ, put_occ, hsn, h.oc]
theorem BR.end {m : List (List Int)} (hm : RightM m) {N : Ld} (h : BR m m.length N) : N.cells.length = (layR m).cells.length := by
  rw [h.cl, List.take_of_length_le (by rw [order_length hm]; exact Nat.le_refl _)]
  rfl
end Go.Proofs.Ytliajnflmddnoaa
