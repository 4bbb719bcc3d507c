/- What Insert and Take leave as it was, in plain words. -/
import Derived.Test.YtliajnflmddnoaaP6
namespace Go.Proofs.Ytliajnflmddnoaa

theorem hasE_ok {L : Ld} {r : Int} (h : hasE L r = 0) : RightL L ∧ 0 ≤ r ∧ r < L.starts.length ∧ 0 ≤ L.st r.toNat := by
  unfold hasE at h
  split at h
  · rename_i h1
    split at h
    · rename_i h2
      exact ⟨chkL_ok h1, h2⟩
    · cases h
  · rename_i h1
    exact absurd h h1
theorem hasE_of {L : Ld} (h : RightL L) (r : Nat) : hasE L r = if r < L.starts.length ∧ 0 ≤ L.st r then 0 else 5 := by
  unfold hasE
  rw [if_pos h.chk, Int.toNat_natCast]
  by_cases h1 : r < L.starts.length ∧ 0 ≤ L.st r
  · rw [if_pos h1, if_pos (by omega)]
  · rw [if_neg h1, if_neg (by omega)]
theorem lookE_of {L : Ld} {r c : Nat} (hc : (c : Int) < L.cols) : lookE L r c = hasE L r := by
  unfold lookE
  split
  · rename_i h
    rw [if_pos (by omega), h]
  · rfl
theorem lookV_of {L : Ld} {r c : Nat} (hc : (c : Int) < L.cols) : lookV L r c = if hasE L r = 0 then lookN L r c else 0 := by
  unfold lookV
  rw [lookE_of hc, Int.toNat_natCast, Int.toNat_natCast]

def takL (L : Ld) (a : Nat) : Ld := ⟨L.cols, L.starts.set a (-1), L.cells.map (takC a)⟩
theorem takV_of {L : Ld} {a : Nat} (h : hasE L a = 0) : takV L a = takL L a := by
  unfold takV
  rw [if_pos h, Int.toNat_natCast]
  rfl
theorem tak_st {L : Ld} {a : Nat} (ha : a < L.starts.length) (i : Nat) : (takL L a).st i = if a = i then -1 else L.st i := set_at _ _ _ _ _ ha
theorem tak_cell (L : Ld) (a p : Nat) : (takL L a).cell p = takC a (L.cell p) := by
  unfold Ld.cell takL
  rw [List.getD_eq_getElem?_getD, List.getD_eq_getElem?_getD, List.getElem?_map]
  cases L.cells[p]? with
  | some x => rfl
  | none =>
    unfold takC
    simp
theorem take_right {L : Ld} (h : RightL L) {a : Nat} (ha : a < L.starts.length) : RightL (takL L a) := by
  have hl : (takL L a).starts.length = L.starts.length := List.length_set ..
  have hc : (takL L a).cells.length = L.cells.length := List.length_map ..
  refine ⟨by rw [hl]; exact h.rows, by rw [hc]; exact h.room, h.col0, h.col1, fun i hi => ?_, fun i hi => ?_⟩
  · rw [hl] at hi
    rw [tak_st ha, hc]
    split
    · exact .inl rfl
    · exact h.start i hi
  · rw [tak_cell]
    unfold takC
    split
    · exact .inl rfl
    · rename_i hne
      rcases h.getD i with e | ⟨r, h1, h2, h3, h4, h5, h6⟩
      · exact .inl e
      · refine .inr ⟨r, h1, by rw [hl]; exact h2, h3, ?_⟩
        rw [tak_st ha, if_neg (by omega)]
        exact ⟨h4, h5, h6⟩
theorem take_same {L : Ld} {a r : Nat} (ha : hasE L a = 0) {c : Nat} (_hr : r < L.starts.length) (hc : (c : Int) < L.cols) :
    (r = a → lookE (takV L a) r c = 5) ∧ (r ≠ a → lookE (takV L a) r c = lookE L r c ∧ lookV (takV L a) r c = lookV L r c) := by
  obtain ⟨h, _, h1, _⟩ := hasE_ok ha
  have ha' : a < L.starts.length := by omega
  rw [takV_of ha]
  have hT := take_right h ha'
  have hl : (takL L a).starts.length = L.starts.length := List.length_set ..
  have hc' : (c : Int) < (takL L a).cols := hc
  constructor
  · rintro rfl
    rw [lookE_of hc', hasE_of hT, tak_st ha', if_pos rfl, if_neg (by omega)]
  · intro hne
    have hst : (takL L a).st r = L.st r := by rw [tak_st ha', if_neg (fun e => hne e.symm)]
    have hh : hasE (takL L a) r = hasE L r := by rw [hasE_of hT, hasE_of h, hl, hst]
    refine ⟨by rw [lookE_of hc', lookE_of hc, hh], ?_⟩
    rw [lookV_of hc', lookV_of hc, hh]
    split
    · unfold lookN
      rw [hst, tak_cell]
      unfold takC
      split
      · rename_i e
        rw [if_neg (by simp only; omega), if_neg]
        omega
      · rfl
    · rfl

def insL (L : Ld) (row : List Int) : Ld := ⟨L.cols, L.starts ++ [(startN L.cells row : Int)], putL L.cells row L.starts.length⟩
theorem insE_ok {L : Ld} {row : List Int} (h : insE L row = 0) : RightL L ∧ (row.length : Int) = L.cols ∧ (∀ e, e ∈ row → rightB e = true) ∧ L.starts.length < 60 ∧ (putL L.cells row L.starts.length).length ≤ 30000 := by
  unfold insE at h
  split at h
  · rename_i h1
    split at h
    · rename_i h2
      split at h
      · cases h
      · split at h
        · cases h
        · exact ⟨chkL_ok h1, h2.1, List.all_eq_true.1 h2.2, by omega, by omega⟩
    · cases h
  · rename_i h1
    exact absurd h h1
theorem insE_of {L : Ld} {row : List Int} (h : RightL L) (h1 : (row.length : Int) = L.cols) (h2 : ∀ e, e ∈ row → rightB e = true) (h3 : (putL L.cells row L.starts.length).length ≤ 30000) :
    insE L row = if 60 ≤ L.starts.length then 3 else 0 := by
  unfold insE
  rw [if_pos h.chk, if_pos ⟨h1, List.all_eq_true.2 h2⟩]
  split
  · rfl
  · rw [if_neg (by omega)]
theorem insV_of {L : Ld} {row : List Int} (h : insE L row = 0) : insV L row = insL L row ∧ insAt L row = L.starts.length := by
  unfold insV insAt
  rw [if_pos h, if_pos h]
  exact ⟨rfl, rfl⟩
theorem ins_len (L : Ld) (row : List Int) : (insL L row).starts.length = L.starts.length + 1 := List.length_append ..
theorem ins_st {L : Ld} {row : List Int} {i : Nat} (hi : i < L.starts.length) : (insL L row).st i = L.st i := getD_left hi
theorem ins_own (L : Ld) (row : List Int) : (insL L row).st L.starts.length = (startN L.cells row : Nat) := getD_last _ _ _
theorem ins_cell (L : Ld) (row : List Int) (p : Nat) : (insL L row).cell p = if startN L.cells row ≤ p ∧ nz (row.getD (p - startN L.cells row) (-1)) = true then ((L.starts.length : Int), row.getD (p - startN L.cells row) (-1)) else L.cell p := put_at ..
theorem ins_right {L : Ld} {row : List Int} (hE : insE L row = 0) : RightL (insL L row) := by
  obtain ⟨h, h1, h2, h3, h4⟩ := insE_ok hE
  have hl := ins_len L row
  have hc : (insL L row).cells.length = max L.cells.length (startN L.cells row + row.length) := putL_length ..
  refine ⟨by omega, h4, h.col0, h.col1, fun i hi => ?_, fun p hp => ?_⟩
  · rw [hc]
    by_cases e : i < L.starts.length
    · rw [ins_st e]
      rcases h.start i e with q | ⟨q1, q2⟩
      · exact .inl q
      · refine .inr ⟨q1, ?_⟩
        show _ + L.cols ≤ _
        omega
    · obtain rfl : i = L.starts.length := by omega
      rw [ins_own]
      refine .inr ⟨by omega, ?_⟩
      show _ + L.cols ≤ _
      omega
  · rw [ins_cell]
    split
    · rename_i hn
      refine .inr ⟨L.starts.length, rfl, by omega, ?_, ?_⟩
      · show thereB (row.getD (p - startN L.cells row) (-1)) = true
        have hlt := nz_lt hn.2
        rw [there_nz]
        · exact hn.2
        · rw [getD_in hlt]
          exact h2 _ (List.getElem_mem _)
      · rw [ins_own]
        have hlt := nz_lt hn.2
        refine ⟨by omega, by omega, ?_⟩
        show _ < _ + L.cols
        omega
    · rcases h.getD p with e | ⟨r, q1, q2, q3, q4⟩
      · exact .inl e
      · refine .inr ⟨r, q1, by omega, q3, ?_⟩
        rw [ins_st q2]
        exact q4
theorem ins_same {L : Ld} {row : List Int} (hE : insE L row = 0) {r c : Nat} (hr : r < L.starts.length) (hc : (c : Int) < L.cols) :
    lookE (insL L row) r c = lookE L r c ∧ lookV (insL L row) r c = lookV L r c := by
  have h := (insE_ok hE).1
  have hI := ins_right hE
  have hl := ins_len L row
  have hc' : (c : Int) < (insL L row).cols := hc
  have hh : hasE (insL L row) r = hasE L r := by
    rw [hasE_of hI, hasE_of h, hl, ins_st hr]
    by_cases e : 0 ≤ L.st r
    · rw [if_pos ⟨by omega, e⟩, if_pos ⟨hr, e⟩]
    · rw [if_neg (fun x => e x.2), if_neg (fun x => e x.2)]
  refine ⟨by rw [lookE_of hc', lookE_of hc, hh], ?_⟩
  rw [lookV_of hc', lookV_of hc, hh]
  split
  · unfold lookN
    rw [ins_st hr, ins_cell]
    split
    · rename_i hn
      have := start_free (C := L.cells) hn.2
      rw [show startN L.cells row + ((L.st r).toNat + c - startN L.cells row) = (L.st r).toNat + c from by omega] at this
      rw [h.occ_none this, if_neg (by simp; omega), if_neg (by simp)]
    · rfl
  · rfl
theorem ins_new {L : Ld} {row : List Int} (hE : insE L row = 0) {c : Nat} (hc : (c : Int) < L.cols) :
    hasE (insL L row) L.starts.length = 0 ∧ lookE (insL L row) L.starts.length c = 0 ∧ lookV (insL L row) L.starts.length c = row.getD c (-1) := by
  have h := (insE_ok hE).1
  have hI := ins_right hE
  have hl := ins_len L row
  have hc' : (c : Int) < (insL L row).cols := hc
  have hh : hasE (insL L row) L.starts.length = 0 := by
    rw [hasE_of hI, hl, ins_own, if_pos (by omega)]
  refine ⟨hh, by rw [lookE_of hc', hh], ?_⟩
  rw [lookV_of hc', if_pos hh]
  unfold lookN
  rw [ins_own, Int.toNat_natCast]
  have hx := ins_cell L row (startN L.cells row + c)
  rw [show startN L.cells row + c - startN L.cells row = c from by omega] at hx
  cases hn : nz (row.getD c (-1)) with
  | true =>
    rw [if_pos ⟨by omega, hn⟩] at hx
    rw [hx, if_pos rfl]
  | false =>
    rw [if_neg (by rw [hn]; simp)] at hx
    have he : row.getD c (-1) = -1 := by simpa [nz] using hn
    rw [hx, he, if_neg]
    rcases h.getD (startN L.cells row + c) with e | ⟨r, q1, q2, _⟩
    · rw [e]; simp only; omega
    · rw [q1]; omega
theorem again_occ {L : Ld} {row : List Int} (h : RightL L) (p : Nat) : occ (takL (insL L row) L.starts.length).cells p = occ L.cells p := by
  have e1 : (takL (insL L row) L.starts.length).cells.getD p (-1, 0) = takC L.starts.length ((insL L row).cell p) := tak_cell _ _ _
  unfold occ
  rw [e1, ins_cell]
  split
  · rename_i hn
    have := start_free (C := L.cells) hn.2
    rw [show startN L.cells row + (p - startN L.cells row) = p from by omega] at this
    unfold occ at this
    rw [this]
    unfold takC
    simp
  · show _ = decide (0 ≤ (L.cell p).1)
    unfold takC
    split
    · rename_i e
      rcases h.getD p with e' | ⟨r, q1, q2, _⟩
      · rw [e'] at e
        simp at e
      · omega
    · rfl
/-- Taken away and inserted again a row has its start. -/
theorem ins_again {L : Ld} {row : List Int} (hE : insE L row = 0) :
    let B := takV (insL L row) L.starts.length
    B.starts.length = L.starts.length + 1 ∧ (insE B row = 3 ∧ B.starts.length = 60 ∨ insE B row = 0 ∧ insAt B row = (L.starts.length : Int) + 1 ∧ (insV B row).starts.length = L.starts.length + 2 ∧ (insV B row).starts.getD (L.starts.length + 1) (-1) = (startN L.cells row : Nat)) := by
  obtain ⟨h, h1, h2, h3, h4⟩ := insE_ok hE
  have hI := ins_right hE
  have hl := ins_len L row
  have hh : hasE (insL L row) L.starts.length = 0 := by
    rw [hasE_of hI, hl, ins_own, if_pos (by omega)]
  show _ ∧ _
  rw [takV_of hh]
  have hB := take_right hI (a := L.starts.length) (by omega)
  have hBl : (takL (insL L row) L.starts.length).starts.length = L.starts.length + 1 := by rw [← hl]; exact List.length_set ..
  have hst : startN (takL (insL L row) L.starts.length).cells row = startN L.cells row := start_congr (again_occ h)
  have hcl : (takL (insL L row) L.starts.length).cells.length = max L.cells.length (startN L.cells row + row.length) := (List.length_map ..).trans (putL_length ..)
  refine ⟨hBl, ?_⟩
  have hroom : (putL (takL (insL L row) L.starts.length).cells row (takL (insL L row) L.starts.length).starts.length).length ≤ 30000 := by
    rw [putL_length, hst, hcl]
    rw [putL_length] at h4
    omega
  have hq := insE_of (row := row) hB h1 h2 hroom
  by_cases h60 : 60 ≤ (takL (insL L row) L.starts.length).starts.length
  · rw [if_pos h60] at hq
    exact .inl ⟨hq, by omega⟩
  · rw [if_neg h60] at hq
    obtain ⟨q1, q2⟩ := insV_of hq
    refine .inr ⟨hq, by rw [q2, hBl]; omega, ?_, ?_⟩
    · rw [q1, ins_len, hBl]
    · rw [q1]
      have := ins_own (takL (insL L row) L.starts.length) row
      unfold Ld.st at this
      rw [hBl, hst] at this
      exact this
end Go.Proofs.Ytliajnflmddnoaa
