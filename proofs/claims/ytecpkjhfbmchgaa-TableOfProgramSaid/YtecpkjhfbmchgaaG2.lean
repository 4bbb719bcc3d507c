/- Contracts of the small functions of package table: there, right, the closures of Check, IndexFunc, ContainsFunc, Check. Contracts of clash and Clash of package table. The contract of colour of package table: the colours of the columns. Contracts of Clash, Colour and CheckColour of package table. Contracts of full and of order's comparison of package table. -/
import Derived.Test.YtecpkjhfbmchgaaP1
import Derived.Deep.LoopGhost
namespace Go.Proofs.Ytecpkjhfbmchgaa
open Go.RowKit


theorem k72 (x : Int) (w : World) : Calls Try.prog 51 #[.int .i64 x] w (RetS (.bool (thereB x)) w) := by
  go_enter Try.func51, Try.ntmps51
  go_wp2
  all_goals go_ret
  all_goals exact ⟨ret_bool (by rw [Bool.eq_iff_iff]; simp [thereB] at *; omega), rfl⟩
theorem k59 (x : Int) (w : World) : Calls Try.prog 31 #[.int .i64 x] w (RetS (.bool (rightB x)) w) := by
  go_enter Try.func31, Try.ntmps31
  go_wp2_with (go_at_call 51; refine (k72 _ _).mono ?_; rintro e w' ⟨rfl, rfl⟩)
  all_goals go_ret
  all_goals exact ⟨ret_bool (by simp [rightB] at * <;> first | assumption | exact .inl (by assumption)), rfl⟩
theorem k67 (a : Option Addr) (n c : Nat) (w : World) : Calls Try.prog 43 #[.slice a n c] w (RetS (.bool (decide (400 < n))) w) := by
  go_enter Try.func43, Try.ntmps43
  go_wp2
  go_ret
  exact ⟨ret_bool (by simp <;> omega), rfl⟩
theorem k68 (x : Int) (w : World) : Calls Try.prog 44 #[.int .i64 x] w (RetS (.bool (!rightB x)) w) := by
  go_enter Try.func44, Try.ntmps44
  go_wp2_with (go_at_call 31; refine (k59 _ _).mono ?_; rintro e w' ⟨rfl, rfl⟩)
  go_ret
  exact ⟨rfl, rfl⟩
theorem k58 (x : Int) (w : World) : Calls Try.prog 30 #[.int .i64 x] w (RetS (.bool (!rightB x)) w) := by
  go_enter Try.func30, Try.ntmps30
  go_wp2_with (go_at_call 31; refine (k59 _ _).mono ?_; rintro e w' ⟨rfl, rfl⟩)
  go_ret
  exact ⟨rfl, rfl⟩

/-- A list of lists of numbers, read off a slice of slices. -/
def RdM (w : World) (a : Option Addr) (m : List (List Int)) : Prop :=
  ∀ i (h : i < m.length), ∃ b off, a = some ⟨b, off, none⟩ ∧ b < w.heap.size ∧ ∃ ai ci, w.cell? ⟨b, off + i, none⟩ = some (.slice ai m[i].length ci) ∧ RdI w ai m[i]
theorem RdM.below {w w' : World} {a : Option Addr} {m : List (List Int)} (h : RdM w a m) (hb : Below w.heap.size w w') : RdM w' a m := by
  intro i hi
  obtain ⟨b, off, ha, hlt, ai, ci, h1, h2⟩ := h i hi
  exact ⟨b, off, ha, Nat.lt_of_lt_of_le hlt hb.size, ai, ci, cell_later hb h1, h2.below hb⟩

set_option maxHeartbeats 1000000 in
theorem index68 (l : List Int) (a : Option Addr) (cap : Nat) (w : World) (hl : RdI w a l) (hlen : l.length ≤ 1000000) :
    Calls Try.prog 53 #[.slice a l.length cap, .func (.func 44) #[] #[]] w (RetS (.int .i64 (idxP (fun x => !rightB x) l)) w) := by
  have HL := hid hl; clear hl
  go_enter Try.func53, Try.ntmps53
  go_wp2
  go_loop [8] (fun i => ∃ j : Nat, j ≤ l.length ∧ i = .int .i64 j ∧ ∀ x, x ∈ l.take j → (!rightB x) = false) (fun i => l.length - (intOf i).toNat)
  case atStart => exact ⟨0, Nat.zero_le _, rfl, by simp⟩
  case round =>
    obtain ⟨j, hj, rfl, hq⟩ := hrel
    have HQ := hid hq; clear hq
    by_cases hlt : j < l.length
    · obtain ⟨b2, off, ha, hlt2, h1⟩ := HL.out j hlt
      subst ha
      go_wp2_with (go_at_call 44; refine (k68 _ _).mono ?_; rintro e w' ⟨rfl, rfl⟩)
      · have ht : (!rightB l[j]) = true := by assumption
        go_ret
        exact ⟨ret_int (idxP_some (p := fun x => !rightB x) hlt ht HQ.out).symm, rfl⟩
      · have ht : (!rightB l[j]) = false := by assumption
        have HT := hid ht; clear ht
        go_round
        case rel =>
          refine ⟨j + 1, by omega, by go_num, ?_⟩
          intro x hx
          rw [take_last hlt, List.mem_append] at hx
          rcases hx with hx | hx
          · exact HQ.out x hx
          · rw [List.mem_singleton.1 hx]; exact HT.out
        case measure => simp [intOf]; omega
    · go_wp2
      go_ret
      exact ⟨ret_int (idxP_none (p := fun x => !rightB x) (fun x hx => HQ.out x (by rw [List.take_of_length_le (by omega)]; exact hx))).symm, rfl⟩
theorem some68 (l : List Int) (a : Option Addr) (cap : Nat) (w : World) (hl : RdI w a l) (hlen : l.length ≤ 1000000) :
    Calls Try.prog 29 #[.slice a l.length cap, .func (.func 44) #[] #[]] w (RetS (.bool (!l.all rightB)) w) := by
  have hx : decide (0 ≤ idxP (fun x => !rightB x) l) = !l.all rightB := by rw [idxP_any, List.all_eq_not_any_not, Bool.not_not]
  have HX := hid hx; clear hx
  go_enter Try.func29, Try.ntmps29
  go_wp2_with (go_at_call 53; refine (index68 l a cap _ hl hlen).mono ?_; rintro e w' ⟨rfl, rfl⟩)
  go_ret
  exact ⟨ret_bool HX.out, rfl⟩

set_option maxHeartbeats 1000000 in
theorem index67 (m : List (List Int)) (a : Option Addr) (cap : Nat) (w : World) (hl : RdM w a m) (hlen : m.length ≤ 1000000) :
    Calls Try.prog 49 #[.slice a m.length cap, .func (.func 43) #[] #[]] w (RetS (.int .i64 (idxP longB m)) w) := by
  have HL := hid hl; clear hl
  go_enter Try.func49, Try.ntmps49
  go_wp2
  go_loop [8] (fun i => ∃ j : Nat, j ≤ m.length ∧ i = .int .i64 j ∧ ∀ x, x ∈ m.take j → longB x = false) (fun i => m.length - (intOf i).toNat)
  case atStart => exact ⟨0, Nat.zero_le _, rfl, by simp⟩
  case round =>
    obtain ⟨j, hj, rfl, hq⟩ := hrel
    have HQ := hid hq; clear hq
    by_cases hlt : j < m.length
    · obtain ⟨b2, off, ha, hlt2, ai, ci, h1, h2⟩ := HL.out j hlt
      subst ha
      clear h2
      go_wp2_with (go_at_call 43; refine (k67 _ _ _ _).mono ?_; rintro e w' ⟨rfl, rfl⟩)
      · have ht : longB m[j] = true := by unfold longB; simpa using (by assumption : 400 < m[j].length)
        go_ret
        exact ⟨ret_int (idxP_some hlt ht HQ.out).symm, rfl⟩
      · have ht : longB m[j] = false := by unfold longB; simpa using (by assumption : ¬ 400 < m[j].length)
        have HT := hid ht; clear ht
        go_round
        case rel =>
          refine ⟨j + 1, by omega, by go_num, ?_⟩
          intro x hx
          rw [take_last hlt, List.mem_append] at hx
          rcases hx with hx | hx
          · exact HQ.out x hx
          · rw [List.mem_singleton.1 hx]; exact HT.out
        case measure => simp [intOf]; omega
    · go_wp2
      go_ret
      exact ⟨ret_int (idxP_none (fun x hx => HQ.out x (by rw [List.take_of_length_le (by omega)]; exact hx))).symm, rfl⟩
theorem some67 (m : List (List Int)) (a : Option Addr) (cap : Nat) (w : World) (hl : RdM w a m) (hlen : m.length ≤ 1000000) :
    Calls Try.prog 42 #[.slice a m.length cap, .func (.func 43) #[] #[]] w (RetS (.bool (m.any longB)) w) := by
  have hx := idxP_any longB m
  have HX := hid hx; clear hx
  go_enter Try.func42, Try.ntmps42
  go_wp2_with (go_at_call 49; refine (index67 m a cap _ hl hlen).mono ?_; rintro e w' ⟨rfl, rfl⟩)
  go_ret
  exact ⟨ret_bool HX.out, rfl⟩

theorem RdM.head {w : World} {a : Option Addr} {m : List (List Int)} (h : RdM w a m) (h0 : 0 < m.length) : ∃ b off, a = some ⟨b, off, none⟩ ∧ b < w.heap.size ∧ ∃ ai ci, w.cell? ⟨b, off, none⟩ = some (.slice ai (colsN m) ci) := by
  obtain ⟨b, off, ha, hlt, ai, ci, h1, _⟩ := h 0 h0
  refine ⟨b, off, ha, hlt, ai, ci, ?_⟩
  have e : colsN m = m[0].length := by
    unfold colsN
    cases m with
    | nil => cases h0
    | cons r m => rfl
  rw [e]
  exact h1

set_option maxHeartbeats 1000000 in
theorem check_any (m : List (List Int)) (a : Option Addr) (cap : Nat) (w : World) (hl : RdM w a m) (hlen : m.length ≤ 1000000) (hrl : ∀ r, r ∈ m → r.length ≤ 1000000) :
    Calls Try.prog 20 #[.slice a m.length cap] w (RetS (.int .i64 (chkM m)) w) := by
  have HL := hid hl; clear hl
  have HR := hid hrl; clear hrl
  go_enter Try.func20, Try.ntmps20
  by_cases h1 : 60 < m.length
  · have h1' : decide ((60 : Int) < (m.length : Int)) = true := by simp; omega
    have h1'' : (60 : Int) < (m.length : Int) := by omega
    go_wp2
    go_ret
    exact ⟨ret_int (by unfold chkM; rw [if_pos (.inl h1)]), rfl⟩
  have h1' : decide ((60 : Int) < (m.length : Int)) = false := by simp; omega
  have h1'' : ¬ (60 : Int) < (m.length : Int) := by omega
  cases h2 : m.any longB with
  | true =>
    have H2 := hid h2
    clear h2
    go_wp2_with (go_at_call 42; refine (some67 m a cap _ HL.out hlen).mono ?_; rw [H2.out]; rintro e w' ⟨rfl, rfl⟩)
    go_ret
    exact ⟨ret_int (by unfold chkM; rw [if_pos (.inr H2.out)]), rfl⟩
  | false =>
    have H2 := hid h2
    clear h2
    have H12 : Hid (¬ (60 < m.length ∨ m.any longB = true)) := hid (by rw [H2.out, not_or]; exact ⟨h1, by simp⟩)
    by_cases h3 : m.length = 0
    · have h3' : ((m.length : Int) == 0) = true := by rw [beq_iff_eq]; omega
      have H3 := hid h3
      clear h3
      go_wp2_with (go_at_call 42; refine (some67 m a cap _ HL.out hlen).mono ?_; rw [H2.out]; rintro e w' ⟨rfl, rfl⟩)
      go_ret
      exact ⟨ret_int (by unfold chkM; rw [if_neg H12.out, if_pos H3.out]), rfl⟩
    have h3' : ((m.length : Int) == 0) = false := by rw [beq_eq_false_iff_ne]; omega
    have H3 := hid h3
    obtain ⟨b0, o0, ha, hlt0, ai0, ci0, hc0⟩ := HL.out.head (by omega)
    subst ha
    go_wp2_with (go_at_call 42; refine (some67 m _ cap _ HL.out hlen).mono ?_; rw [H2.out]; rintro e w' ⟨rfl, rfl⟩)
    go_loop [17] (fun i => ∃ j : Nat, j ≤ m.length ∧ i = .int .i64 j ∧ ∀ x, x ∈ m.take j → evenB m x = true) (fun i => m.length - (intOf i).toNat)
    case atStart => exact ⟨0, Nat.zero_le _, rfl, by simp⟩
    case round =>
      obtain ⟨j, hj, rfl, hq⟩ := hrel
      have HQ := hid hq; clear hq
      by_cases hlt : j < m.length
      · obtain ⟨b2, off, ha, hlt2, aj, cj, h4, h5⟩ := HL.out j hlt
        cases ha
        have hjl := HR.out _ (List.getElem_mem hlt)
        have fail1 : evenB m m[j] = false → Hid (chkM m = 1) := fun hf => hid (by
          unfold chkM
          rw [if_neg H12.out, if_neg H3.out, if_neg]
          intro ht
          have := List.all_eq_true.1 ht _ (List.getElem_mem hlt)
          rw [hf] at this
          cases this)
        have FAIL := hid fail1
        clear fail1
        by_cases h6 : m[j].length = colsN m
        · have h6' : ((m[j].length : Int) != (colsN m : Int)) = false := by simp; omega
          have H6 := hid h6
          clear h6
          cases h7 : m[j].all rightB with
          | true =>
            have H7 := hid h7
            clear h7
            go_wp2_with (go_at_call 29; refine (some68 m[j] aj cj _ h5 hjl).mono ?_; rw [H7.out]; rintro e w' ⟨rfl, rfl⟩)
            go_round
            case rel =>
              refine ⟨j + 1, by omega, by go_num, ?_⟩
              intro x hx
              rw [take_last hlt, List.mem_append] at hx
              rcases hx with hx | hx
              · exact HQ.out x hx
              · rw [List.mem_singleton.1 hx]; unfold evenB; rw [H7.out, H6.out]; simp
            case measure => simp [intOf]; omega
          | false =>
            have H7 := hid h7
            clear h7
            go_wp2_with (go_at_call 29; refine (some68 m[j] aj cj _ h5 hjl).mono ?_; rw [H7.out]; rintro e w' ⟨rfl, rfl⟩)
            go_ret
            exact ⟨ret_int (FAIL.out (by unfold evenB; rw [H7.out, Bool.and_false])).out.symm, rfl⟩
        · have h6' : ((m[j].length : Int) != (colsN m : Int)) = true := by simp; omega
          have H6 := hid h6
          clear h6
          go_wp2
          go_ret
          exact ⟨ret_int (FAIL.out (by unfold evenB; rw [show (m[j].length == colsN m) = false from by simpa using H6.out, Bool.false_and])).out.symm, rfl⟩
      · go_wp2
        go_ret
        exact ⟨ret_int (by
          unfold chkM
          rw [if_neg H12.out, if_neg H3.out, if_pos]
          exact List.all_eq_true.2 fun x hx => HQ.out x (by rw [List.take_of_length_le (by omega)]; exact hx)), rfl⟩


theorem RdI.at {w : World} {a : Option Addr} {l : List Int} (h : RdI w a l) {i : Nat} (hi : i < l.length) : ∃ b off, a = some ⟨b, off, none⟩ ∧ b < w.heap.size ∧ w.cell? ⟨b, off + i, none⟩ = some (.int .i64 (l.getD i (-1))) := by
  obtain ⟨b, off, h1, h2, h3⟩ := h i hi
  exact ⟨b, off, h1, h2, by rw [getD_in hi]; exact h3⟩
theorem right_at {r : List Int} (h : ∀ e, e ∈ r → rightB e = true) {i : Nat} (hi : i < r.length) : thereB (r.getD i (-1)) = nz (r.getD i (-1)) := there_nz (by rw [getD_in hi]; exact h _ (List.getElem_mem hi))

set_option maxHeartbeats 400000 in
theorem k86 (r : List Int) (ar : Option Addr) (c : Nat) (i j bi bj : Nat) (w : World) (hr : RdI w ar r) (hi : i < r.length) (hj : j < r.length) (hok : ∀ e, e ∈ r → rightB e = true)
    (ci : w.cell? ⟨bi, 0, none⟩ = some (.int .i64 i)) (cj : w.cell? ⟨bj, 0, none⟩ = some (.int .i64 j)) :
    Calls Try.prog 50 #[.slice ar r.length c, .pointer (some ⟨bi, 0, none⟩), .pointer (some ⟨bj, 0, none⟩)] w (RetS (.bool (cl i j r)) w) := by
  obtain ⟨b, off, rfl, hb, hx⟩ := hr.at hi
  obtain ⟨b', off', e, _, hy⟩ := hr.at hj
  cases e
  have e1 := right_at hok hi
  have e2 := right_at hok hj
  have E : Hid (cl i j r = (nz (r.getD i (-1)) && nz (r.getD j (-1)))) := rfl
  have n1 : (i : Int) < (r.length : Int) := by omega
  have n2 : (j : Int) < (r.length : Int) := by omega
  generalize r.getD i (-1) = x at *
  generalize r.getD j (-1) = y at *
  have E1 := hid e1
  have E2 := hid e2
  clear hok hr e1 e2
  cases h1 : nz x with
  | true =>
    have H1 := hid h1
    clear h1
    go_enter Try.func50, Try.ntmps50
    go_wp2_with (go_at_call 51; (first | ((with_reducible refine (k72 x _).mono ?_); rw [E1.out, H1.out]; rintro e w' ⟨rfl, rfl⟩) | ((with_reducible refine (k72 y _).mono ?_); rw [E2.out]; rintro e w' ⟨rfl, rfl⟩)))
    go_ret
    exact ⟨ret_bool (by rw [E.out, H1.out]; rfl), rfl⟩
  | false =>
    have H1 := hid h1
    clear h1
    go_enter Try.func50, Try.ntmps50
    go_wp2_with (go_at_call 51; ((with_reducible refine (k72 x _).mono ?_); rw [E1.out, H1.out]; rintro e w' ⟨rfl, rfl⟩))
    go_ret
    exact ⟨ret_bool (by rw [E.out, H1.out]; rfl), rfl⟩

set_option maxHeartbeats 1000000 in
theorem index86 (m : List (List Int)) (a : Option Addr) (cap i j bi bj : Nat) (w : World) (hm : RightM m) (hl : RdM w a m) (hi : i < colsN m) (hj : j < colsN m)
    (ci : w.cell? ⟨bi, 0, none⟩ = some (.int .i64 i)) (cj : w.cell? ⟨bj, 0, none⟩ = some (.int .i64 j)) :
    Calls Try.prog 49 #[.slice a m.length cap, .func (.func 50) #[] #[.pointer (some ⟨bi, 0, none⟩), .pointer (some ⟨bj, 0, none⟩)]] w (RetS (.int .i64 (clashM m i j)) w) := by
  have HL := hid hl; clear hl
  have HM := hid hm; clear hm
  have hlen := HM.out.rows
  go_enter Try.func49, Try.ntmps49
  go_wp2
  go_loop [8] (fun s => ∃ k : Nat, k ≤ m.length ∧ s = .int .i64 k ∧ ∀ x, x ∈ m.take k → cl i j x = false) (fun s => m.length - (intOf s).toNat)
  case atStart => exact ⟨0, Nat.zero_le _, rfl, by simp⟩
  case round =>
    obtain ⟨k, hk, rfl, hq⟩ := hrel
    have HQ := hid hq; clear hq
    by_cases hlt : k < m.length
    · obtain ⟨b2, off, ha, hlt2, ak, ck, h1, h2⟩ := HL.out k hlt
      subst ha
      have hk1 := HM.out.len k hlt
      have HK := hid (k86 m[k] ak ck i j bi bj w h2 (by omega) (by omega) (HM.out.ent k hlt) ci cj)
      clear h2 ci cj hk1
      go_wp2_with (go_at_call 50; refine HK.out.mono ?_; rintro e w' ⟨rfl, rfl⟩)
      · have ht : cl i j m[k] = true := by assumption
        go_ret
        exact ⟨ret_int (idxP_some hlt ht HQ.out).symm, rfl⟩
      · have ht : cl i j m[k] = false := by assumption
        have HT := hid ht; clear ht
        go_round
        case rel =>
          refine ⟨k + 1, by omega, by go_num, ?_⟩
          intro x hx
          rw [take_last hlt, List.mem_append] at hx
          rcases hx with hx | hx
          · exact HQ.out x hx
          · rw [List.mem_singleton.1 hx]; exact HT.out
        case measure => simp [intOf]; omega
    · go_wp2
      go_ret
      exact ⟨ret_int (idxP_none (fun x hx => HQ.out x (by rw [List.take_of_length_le (by omega)]; exact hx))).symm, rfl⟩

set_option maxHeartbeats 1000000 in
theorem clash_any (m : List (List Int)) (a : Option Addr) (cap i j : Nat) (w : World) (hm : RightM m) (hl : RdM w a m) (hi : i < colsN m) (hj : j < colsN m) :
    Calls Try.prog 25 #[.slice a m.length cap, .int .i64 i, .int .i64 j] w (RetB (.int .i64 (clashM m i j)) w) := by
  have HL := hid hl; clear hl
  have HM := hid hm; clear hm
  go_enter Try.func25, Try.ntmps25
  go_wp2_with (go_at_call 49; refine (index86 m a cap i j _ _ _ HM.out (HL.out.below ((bnew _ _).step (bnew _ _))) hi hj (cell_later (bnew _ _) (cell0_alloc _ _ _)) (by first | exact cell0_alloc _ _ _ | simp)).mono ?_; rintro e w' ⟨rfl, rfl⟩)
  go_ret
  exact ⟨rfl, (bnew _ _).step (bnew _ _)⟩


/-- Small numbers as numbers of the program. -/
def asI (l : List Nat) : List Int := l.map Int.ofNat
theorem asI_length (l : List Nat) : (asI l).length = l.length := by simp [asI]
theorem asI_at {l : List Nat} {i : Nat} (h : i < (asI l).length) : (asI l)[i] = (l.getD i 0 : Nat) := by
  rw [asI_length] at h
  simp [asI, h]
theorem rd_one (w : World) (x : Int) (T : TypeId) : RdI (w.alloc (.cells #[.int .i64 x] T)) (some ⟨w.heap.size, 0, none⟩) [x] := by
  intro i hi
  obtain rfl : i = 0 := by simp at hi; exact hi
  exact ⟨_, _, rfl, lt_alloc _ _, cell0_alloc _ _ _⟩

/-- How many columns ahead clash with b and have colour k, of the first d. -/
def cntC (m : List (List Int)) (b d k : Nat) : Nat := ((List.range d).filter fun a => (colL m b).getD a 0 == k && clB m a b).length
theorem cntC_zero (m : List (List Int)) (b k : Nat) : cntC m b 0 k = 0 := rfl
theorem cntC_le (m : List (List Int)) (b d k : Nat) : cntC m b d k ≤ d := by
  have := List.length_filter_le (fun a => (colL m b).getD a 0 == k && clB m a b) (List.range d)
  rwa [List.length_range] at this
theorem cntC_succ (m : List (List Int)) (b d k : Nat) : cntC m b (d + 1) k = if ((colL m b).getD d 0 == k && clB m d b) = true then cntC m b d k + 1 else cntC m b d k := by
  unfold cntC
  rw [List.range_succ, List.filter_append]
  by_cases h : ((colL m b).getD d 0 == k && clB m d b) = true
  · rw [if_pos h, show [d].filter (fun a => (colL m b).getD a 0 == k && clB m a b) = [d] from List.filter_cons_of_pos h, List.length_append]
    rfl
  · rw [if_neg h, show [d].filter (fun a => (colL m b).getD a 0 == k && clB m a b) = [] from List.filter_cons_of_neg h, List.append_nil]
theorem cntC_free (m : List (List Int)) (b k : Nat) : freeC m (colL m b) b k = decide (cntC m b b k = 0) := by
  unfold freeC cntC
  rw [Bool.eq_iff_iff, List.all_eq_true, decide_eq_true_eq, List.length_eq_zero_iff, List.filter_eq_nil_iff]
  simp only [List.mem_range, Bool.not_eq_true', Bool.and_eq_false_iff, Bool.and_eq_true, not_and, Bool.not_eq_true]
  constructor
  · intro h a ha e
    rcases h a ha with h | h
    · rw [e] at h; cases h
    · exact h
  · intro h a ha
    cases e : (colL m b).getD a 0 == k with
    | true => exact .inr (h a ha e)
    | false => exact .inl rfl

/-- Block g holds 401 numbers. -/
def NA (w : World) (g : Nat) (f : Nat → Int) : Prop := ∃ cur, w.heap[g]? = some (.cells cur 105 (0, 0)) ∧ ∀ k, k < 401 → cur[k]? = some (.int .i64 (f k))
theorem NA.at {w : World} {g : Nat} {f : Nat → Int} (h : NA w g f) {k : Nat} (hk : k < 401) : w.cell? ⟨g, k, none⟩ = some (.int .i64 (f k)) := by
  obtain ⟨cur, hh, hc⟩ := h
  rw [cell_of_row _ _ _ _ _ _ hh]
  exact hc k hk
theorem NA.frozen {w : World} {g : Nat} {f : Nat → Int} (h : NA w g f) (o : Nat) : w.frozen? ⟨g, o, none⟩ = false := by
  obtain ⟨cur, hh, _⟩ := h
  simp [World.frozen?, hh]
theorem NA.lt {w : World} {g : Nat} {f : Nat → Int} (h : NA w g f) : g < w.heap.size := by
  obtain ⟨cur, hh, _⟩ := h
  exact lt_of_heap hh
theorem NA.below {w w' : World} {g : Nat} {f : Nat → Int} (h : NA w g f) (hb : Below w.heap.size w w') : NA w' g f := by
  obtain ⟨cur, hh, hc⟩ := h
  exact ⟨cur, keepBox hb hh, hc⟩
theorem NA.set {w : World} {g : Nat} {f f' : Nat → Int} (h : NA w g f) {i : Nat} (hi : i < 401) (v : Int) (hv : f' i = v) (hf : ∀ k, k ≠ i → f' k = f k) : NA (w.setCell ⟨g, i, none⟩ (.int .i64 v)) g f' := by
  obtain ⟨cur, hh, hc⟩ := h
  have hsz : i < cur.size := (Array.getElem?_eq_some_iff.1 (hc i hi)).1
  refine ⟨_, heap_setCell_same _ _ _ _ _ _ hh, fun k hk => ?_⟩
  rw [Array.getElem?_setIfInBounds]
  by_cases e : i = k
  · subst e
    simp [hsz, hv]
  · rw [if_neg e, hf k (fun h => e h.symm)]
    exact hc k hk
theorem zero121 : Try.zeroCells105 = Array.replicate 401 (.int .i64 0) := by kernel_rfl
theorem NA.new (w : World) (m : List (List Int)) (b : Nat) : NA (w.alloc (.cells Try.zeroCells105 105)) w.heap.size (fun k => (cntC m b 0 k : Nat)) :=
  ⟨_, heapn _ _ _ rfl, fun k hk => by rw [zero121, Array.getElem?_replicate, if_pos hk]; rfl⟩

set_option maxRecDepth 100000 in
set_option maxHeartbeats 1000000 in
theorem colour_any (m : List (List Int)) (a : Option Addr) (cap : Nat) (w : World) (hm : RightM m) (hl : RdM w a m) :
    Calls Try.prog 26 #[.slice a m.length cap] w (fun e w' => Below w.heap.size w w' ∧ ∃ v, e = .returned (.tuple #[v, .int .i64 (manyC (colL m (colsN m)))]) ∧ OwnI w' w.heap.size v (asI (colL m (colsN m)))) := by
  obtain ⟨i0, hi, hz0, hz1, hz2⟩ := info_parts info3
  have HL := hid hl; clear hl
  have HM := hid hm; clear hm
  have hn := HM.out.cols
  have h0 := HM.out.some'
  obtain ⟨b0, o0, ha, hlt0, ai0, ci0, hc0⟩ := HL.out.head h0
  subst ha
  have n0 : (0 : Int) < (m.length : Int) := by omega
  generalize hnn : colsN m = n at *
  have HNN := hid hnn
  clear hnn
  go_enter Try.func26, Try.ntmps26
  go_wp2
  go_loopg [4, 5, 14] n (fun gh s4 s5 s14 wr => ∃ b : Nat, b ≤ n ∧ gh = n - b ∧ s14 = .int .i64 b ∧ s5 = .int .i64 (manyC (colL m b)) ∧ Hid (OwnI wr w.heap.size s4 (asI (colL m b)) ∧ Below w.heap.size w wr))
  case atStart => exact ⟨0, Nat.zero_le _, rfl, rfl, rfl, hid ⟨World.ownsRow_nil _ _ _ _, Below.refl _ _⟩⟩
  case round =>
    obtain ⟨b, hb, rfl, rfl, rfl, HB⟩ := hrel
    by_cases hlt : b < n
    · obtain ⟨wo, rfl⟩ : ∃ wo : World, wo = wr := ⟨_, rfl⟩
      have hlt' : (b : Int) < (n : Int) := by omega
      obtain ⟨ao, co, rfl, hrd⟩ := HB.out.1.rd
      have HRD := hid hrd
      clear hrd
      go_wp2
      go_loopg [18] b (fun gh s18 wr => ∃ d : Nat, d ≤ b ∧ gh = b - d ∧ s18 = .int .i64 d ∧ Hid (NA wr wo.heap.size (fun k => (cntC m b d k : Nat)) ∧ Below wo.heap.size wo wr))
      case atStart => exact ⟨0, Nat.zero_le _, rfl, rfl, hid ⟨NA.new _ _ _, bnew _ _⟩⟩
      case round =>
        obtain ⟨d, hd, rfl, rfl, HX⟩ := hrel
        by_cases hdb : d < b
        · have hdb' : (d : Int) < (b : Int) := by omega
          have hcl := (clashM_comm m b d ▸ clashM_clB m d b : decide (0 ≤ clashM m b d) = clB m d b)
          have hidx := idxP_lt (cl b d) m
          have HC := hid hcl
          clear hcl hidx
          by_cases hz : 0 ≤ clashM m b d
          · have hcl : clB m d b = true := by rw [← HC.out]; exact decide_eq_true hz
            have HCL := hid hcl
            clear hcl
            have hy := colL_le m b d hdb
            obtain ⟨bo, oo, hao, hlto, hco⟩ := HRD.out d (by rw [asI_length, colL_length]; omega)
            rw [asI_at] at hco
            subst hao
            have HNAt := hid (fun k (hk : k < 401) => HX.out.1.at hk)
            obtain ⟨y, hyy⟩ : ∃ y, y = (colL m b).getD d 0 := ⟨_, rfl⟩
            rw [← hyy] at hco hy
            have HY := hid hyy
            clear hyy
            obtain ⟨q, hq⟩ : ∃ q, q = cntC m b d y := ⟨_, rfl⟩
            have hq0 := HNAt.out y (by omega)
            have hqle := cntC_le m b d y
            rw [← hq] at hqle hq0
            have HQ := hid hq
            clear hq
            have HCO := hid hco
            have HQ0 := hid hq0
            clear hco hq0
            have y401 : (y : Int) < 401 := by omega
            have dl : (d : Int) < ((colL m b).length : Int) := by rw [colL_length]; omega
            have dl2 : (d : Int) < ((asI (colL m b)).length : Int) := by rw [asI_length]; exact dl
            have hw1 : IntKind.i64.wrap ((q : Int) + 1) = ((q + 1 : Nat) : Int) := by rw [wrapk (by omega)]; omega
            go_wp2_with (go_at_call 25; refine (clash_any m _ cap b d _ HM.out (HL.out.below (HB.out.2.step HX.out.2)) (by rw [HNN.out]; omega) (by rw [HNN.out]; omega)).mono ?_; rintro e w3 ⟨rfl, hb3⟩; have HB3 := hid hb3; clear hb3; have c1 := cell_later (HX.out.2.step HB3.out) HCO.out; have c2 := cell_later HB3.out HQ0.out; have c3 := (HX.out.1.below HB3.out).frozen y)
            go_roundg (b - (d + 1))
            case rel =>
              refine ⟨d + 1, by omega, rfl, by go_num, hid ⟨(HX.out.1.below HB3.out).set (i := y) (by omega) _ ?_ ?_, (HX.out.2.step HB3.out).setCell (p := ⟨wo.heap.size, y, none⟩) (Nat.le_refl _) _⟩⟩
              · show ((cntC m b (d + 1) y : Nat) : Int) = _
                rw [cntC_succ, if_pos (by rw [← HY.out, HCL.out]; simp), HQ.out]
                omega
              · intro k hk
                show ((cntC m b (d + 1) k : Nat) : Int) = _
                rw [cntC_succ, if_neg (by rw [← HY.out]; simp; omega)]
            case measure => omega
          · have hcl : clB m d b = false := by rw [← HC.out]; exact decide_eq_false hz
            have HCL := hid hcl
            clear hcl
            go_wp2_with (go_at_call 25; refine (clash_any m _ cap b d _ HM.out (HL.out.below (HB.out.2.step HX.out.2)) (by rw [HNN.out]; omega) (by rw [HNN.out]; omega)).mono ?_; rintro e w3 ⟨rfl, hb3⟩; have HB3 := hid hb3; clear hb3)
            go_roundg (b - (d + 1))
            case rel =>
              refine ⟨d + 1, by omega, rfl, by go_num, hid ⟨?_, HX.out.2.step HB3.out⟩⟩
              have e : (fun k => ((cntC m b (d + 1) k : Nat) : Int)) = fun k => ((cntC m b d k : Nat) : Int) := by
                funext k
                rw [cntC_succ, if_neg (by rw [HCL.out]; simp)]
              rw [e]
              exact HX.out.1.below HB3.out
            case measure => omega
        · have hdb' : d = b := by omega
          subst hdb'
          clear hd hdb
          obtain ⟨wi, rfl⟩ : ∃ wi : World, wi = wr := ⟨_, rfl⟩
          go_wp2
          go_loopg [9] d (fun gh s9 wr => ∃ k : Nat, k ≤ d ∧ gh = d - k ∧ s9 = .int .i64 k ∧ wr = wi ∧ Hid (∀ j, j < k → freeC m (colL m d) d j = false))
          case atStart => exact ⟨0, Nat.zero_le _, rfl, rfl, rfl, hid (fun j hj => absurd hj (Nat.not_lt_zero _))⟩
          case round =>
            obtain ⟨k, hk, rfl, rfl, rfl, HK⟩ := hrel
            have hck := HX.out.1.at (k := k) (by omega)
            have hfr := cntC_free m d k
            obtain ⟨q, hq⟩ : ∃ q, q = cntC m d d k := ⟨_, rfl⟩
            rw [← hq] at hck hfr
            have k401 : (k : Int) < 401 := by omega
            by_cases hq0 : 0 < q
            · have hq1 : (0 : Int) < (q : Int) := by omega
              have hff : freeC m (colL m d) d k = false := by rw [hfr]; simp; omega
              have hkd : k ≠ d := by
                intro e
                rw [e, freeC_self] at hff
                cases hff
              have HFF := hid hff
              clear hff hfr hq
              go_wp2
              go_roundg (d - (k + 1))
              case rel =>
                refine ⟨k + 1, by omega, rfl, by go_num, rfl, hid (fun j hj => ?_)⟩
                by_cases e : j = k
                · rw [e]; exact HFF.out
                · exact HK.out j (by omega)
              case measure => omega
            · have hq1 : ¬ (0 : Int) < (q : Int) := by omega
              have hff : freeC m (colL m d) d k = true := by rw [hfr]; simp; omega
              have hcol := colAt_is hff HK.out
              have HCOL := hid hcol
              have hkd : colAt m (colL m d) d = k := hcol
              clear hff hfr hq hcol hkd
              have hown : Hid (OwnI wr w.heap.size (.slice ao (asI (colL m d)).length co) (asI (colL m d))) := hid (HB.out.1.later HX.out.2)
              have hsz := (HB.out.2.step HX.out.2).size
              have hwk : IntKind.i64.wrap ((k : Int) + 1) = ((k + 1 : Nat) : Int) := by rw [wrapk (by omega)]; omega
              go_wp2_with (at_builtin; refine wpList_append_ints _ rfl _ _ rfl w.heap.size _ _ [(k : Int)] rfl (OwnI.later hown.out (bnew _ _)) (some ⟨wr.heap.size, 0, none⟩) 1 rfl (rd_one _ _ _) (by rw [asI_length, colL_length]; simp; omega) (by simp; omega) ?_; intro v' w3 hown' hgrow hnil)
              all_goals
                have hmc : manyC (colL m (d + 1)) = max (manyC (colL m d)) (k + 1) := by
                  show manyC (colL m d ++ [colAt m (colL m d) d]) = _
                  rw [manyC_append, HCOL.out]
                go_roundg (n - (d + 1))
                case rel =>
                  refine ⟨d + 1, by omega, rfl, by go_num, ?_, hid ⟨?_, ?_⟩⟩
                  · rw [hmc]
                    go_num
                  · show OwnI _ _ _ (asI (colL m d ++ [colAt m (colL m d) d]))
                    rw [HCOL.out]
                    unfold asI
                    rw [List.map_append]
                    exact hown'
                  · exact (((HB.out.2.step HX.out.2).alloc hsz _).grown hgrow (by simp; omega) (own_ge hown.out))
                case measure => omega
    · have hbn : b = n := by omega
      subst hbn
      go_wp2
      go_ret2
      exact ⟨HB.out.2, _, rfl, HB.out.1⟩


/-- A column that there is. -/
def inC (m : List (List Int)) (a : Int) : Bool := decide (0 ≤ a) && decide (a < colsN m)
def clashE (m : List (List Int)) (a b : Int) : Int := if chkM m = 0 then (if (inC m a && inC m b) = true then 0 else 5) else chkM m
def clashN (m : List (List Int)) (a b : Int) : Int := if clashE m a b = 0 then max (clashM m a.toNat b.toNat) 0 else 0
def clashIs (m : List (List Int)) (a b : Int) : Bool := decide (clashE m a b = 0) && decide (0 ≤ clashM m a.toNat b.toNat)

set_option maxRecDepth 100000 in
set_option maxHeartbeats 1000000 in
theorem Clash_any (m : List (List Int)) (a : Option Addr) (cap : Nat) (x y : Int) (w : World) (hl : RdM w a m) (hlen : m.length ≤ 1000000) (hrl : ∀ r, r ∈ m → r.length ≤ 1000000) :
    Calls Try.prog 10 #[.slice a m.length cap, .int .i64 x, .int .i64 y] w (Ret3 (.int .i64 (clashN m x y)) (.bool (clashIs m x y)) (.int .i64 (clashE m x y)) w) := by
  have HL := hid hl; clear hl
  have HR := hid hrl; clear hrl
  by_cases hE : chkM m = 0
  · have hm := chkM_ok hE
    have HM := hid hm
    have HE := hid hE
    obtain ⟨b0, o0, rfl, hlt0, ai0, ci0, hc0⟩ := HL.out.head hm.some'
    have n0 : (0 : Int) < (m.length : Int) := by have := hm.some'; omega
    clear hE hm
    by_cases hin : (inC m x && inC m y) = true
    · have he : clashE m x y = 0 := by unfold clashE; rw [if_pos HE.out, if_pos hin]
      have HEQ := hid he
      clear he
      unfold inC at hin
      simp only [Bool.and_eq_true, decide_eq_true_eq] at hin
      obtain ⟨⟨hx0, hx1⟩, hy0, hy1⟩ := hin
      obtain ⟨x, rfl⟩ : ∃ k : Nat, x = (k : Int) := ⟨x.toNat, by omega⟩
      obtain ⟨y, rfl⟩ : ∃ k : Nat, y = (k : Int) := ⟨y.toNat, by omega⟩
      have HN : Hid (clashN m x y = max (clashM m x y) 0) := hid (by unfold clashN; rw [if_pos HEQ.out, Int.toNat_natCast, Int.toNat_natCast])
      have HI : Hid (clashIs m x y = decide (0 ≤ clashM m x y)) := hid (by unfold clashIs; rw [HEQ.out, Int.toNat_natCast, Int.toNat_natCast]; simp)
      have hx2 : ¬ (colsN m : Int) ≤ (x : Int) := by omega
      have hy2 : ¬ (colsN m : Int) ≤ (y : Int) := by omega
      have HB77 := hid (fun w' (hw : RdM w' (some ⟨b0, o0, none⟩) m) => clash_any m _ cap x y w' HM.out hw (by omega) (by omega))
      generalize clashM m x y = z at HN HI HB77
      by_cases hz : 0 ≤ z
      · have HN2 : Hid (clashN m x y = z) := hid (by rw [HN.out]; omega)
        have HI2 : Hid (clashIs m x y = true) := hid (by rw [HI.out]; simpa using hz)
        clear HN HI
        go_enter Try.func10, Try.ntmps10
        go_wp2_with (first | (go_at_call 20; refine (check_any m _ cap _ HL.out hlen HR.out).mono ?_; rw [HE.out]; rintro e w' ⟨rfl, rfl⟩) | (go_at_call 25; refine (HB77.out _ HL.out).mono ?_; rintro e w1 ⟨rfl, hb1⟩; have HB1 := hid hb1; clear hb1))
        all_goals
          go_ret3
          unfold Ret3
          rw [HN2.out, HI2.out, HEQ.out]
          exact ⟨rfl, HB1.out⟩
      · have HN2 : Hid (clashN m x y = 0) := hid (by rw [HN.out]; omega)
        have HI2 : Hid (clashIs m x y = false) := hid (by rw [HI.out]; simpa using hz)
        clear HN HI
        go_enter Try.func10, Try.ntmps10
        go_wp2_with (first | (go_at_call 20; refine (check_any m _ cap _ HL.out hlen HR.out).mono ?_; rw [HE.out]; rintro e w' ⟨rfl, rfl⟩) | (go_at_call 25; refine (HB77.out _ HL.out).mono ?_; rintro e w1 ⟨rfl, hb1⟩; have HB1 := hid hb1; clear hb1))
        all_goals
          go_ret3
          unfold Ret3
          rw [HN2.out, HI2.out, HEQ.out]
          rw [show decide (0 ≤ z) = false from by simpa using hz]
          exact ⟨rfl, HB1.out⟩
    · have he : clashE m x y = 5 := by unfold clashE; rw [if_pos HE.out, if_neg hin]
      have hn : clashN m x y = 0 := by unfold clashN; rw [he]; rfl
      have hi : clashIs m x y = false := by unfold clashIs; rw [he]; rfl
      have HX := hid (And.intro he (And.intro hn hi))
      clear he hn hi
      unfold inC at hin
      simp only [Bool.and_eq_true, decide_eq_true_eq] at hin
      have HIN := hid hin
      clear hin
      go_enter Try.func10, Try.ntmps10
      go_wp2_with (go_at_call 20; refine (check_any m _ cap _ HL.out hlen HR.out).mono ?_; rw [HE.out]; rintro e w' ⟨rfl, rfl⟩)
      all_goals first | (exfalso; have := HIN.out; simp at *; omega) | skip
      all_goals
        go_ret3
        unfold Ret3
        rw [HX.out.1, HX.out.2.1, HX.out.2.2]
        exact ⟨rfl, Below.refl _ _⟩
  · have he : clashE m x y = chkM m := by unfold clashE; rw [if_neg hE]
    have hn : clashN m x y = 0 := by unfold clashN; rw [he, if_neg hE]
    have hi : clashIs m x y = false := by unfold clashIs; rw [he, decide_eq_false hE, Bool.false_and]
    have HX := hid (And.intro he (And.intro hn hi))
    clear he hn hi
    have hne : (chkM m == 0) = false := by rw [beq_eq_false_iff_ne]; exact hE
    have HE := hid hE
    clear hE
    go_enter Try.func10, Try.ntmps10
    go_wp2_with (go_at_call 20; refine (check_any m _ cap _ HL.out hlen HR.out).mono ?_; rintro e w' ⟨rfl, rfl⟩)
    go_ret3
    unfold Ret3
    rw [HX.out.1, HX.out.2.1, HX.out.2.2]
    exact ⟨rfl, Below.refl _ _⟩

def colV (m : List (List Int)) : List Int := if chkM m = 0 then asI (colL m (colsN m)) else []
def colN (m : List (List Int)) : Int := if chkM m = 0 then (manyC (colL m (colsN m)) : Nat) else 0
/-- What a call returns: numbers of its own, and two numbers. -/
def OwnRet2 (l : List Int) (x y : Int) (w : World) (e : Ending) (w' : World) : Prop := Below w.heap.size w w' ∧ ∃ v, e = .returned (.tuple #[v, .int .i64 x, .int .i64 y]) ∧ OwnI w' w.heap.size v l

set_option maxRecDepth 100000 in
set_option maxHeartbeats 1000000 in
theorem Colour_any (m : List (List Int)) (a : Option Addr) (cap : Nat) (w : World) (hl : RdM w a m) (hlen : m.length ≤ 1000000) (hrl : ∀ r, r ∈ m → r.length ≤ 1000000) :
    Calls Try.prog 11 #[.slice a m.length cap] w (OwnRet2 (colV m) (colN m) (chkM m) w) := by
  have HL := hid hl; clear hl
  have HR := hid hrl; clear hrl
  by_cases hE : chkM m = 0
  · have HM := hid (chkM_ok hE)
    have HE := hid hE
    clear hE
    have HV : Hid (colV m = asI (colL m (colsN m)) ∧ colN m = (manyC (colL m (colsN m)) : Nat)) := hid ⟨if_pos HE.out, if_pos HE.out⟩
    go_enter Try.func11, Try.ntmps11
    go_wp2_with (first | (go_at_call 20; refine (check_any m _ cap _ HL.out hlen HR.out).mono ?_; rw [HE.out]; rintro e w' ⟨rfl, rfl⟩) | (go_at_call 26; refine (colour_any m _ cap _ HM.out HL.out).mono ?_; rintro e w1 ⟨hb1, v, rfl, hv⟩; have HB1 := hid hb1; clear hb1; have HOV := hid hv; clear hv))
    go_ret3
    unfold OwnRet2
    rw [HV.out.1, HV.out.2, HE.out]
    exact ⟨HB1.out, _, rfl, HOV.out⟩
  · have hne : (chkM m == 0) = false := by rw [beq_eq_false_iff_ne]; exact hE
    have HV : Hid (colV m = [] ∧ colN m = 0) := hid ⟨if_neg hE, if_neg hE⟩
    clear hE
    go_enter Try.func11, Try.ntmps11
    go_wp2_with (go_at_call 20; refine (check_any m _ cap _ HL.out hlen HR.out).mono ?_; rintro e w' ⟨rfl, rfl⟩)
    go_ret3
    unfold OwnRet2
    rw [HV.out.1, HV.out.2]
    exact ⟨Below.refl _ _, _, rfl, World.ownsRow_nil _ _ _ _⟩

/-- The columns ahead of b with its colour do not clash with it. -/
def apartU (m : List (List Int)) (l : List Int) (b n : Nat) : Bool := (List.range n).all fun a => !(l.getD a (-1) == l.getD b (-1) && clB m a b)
def colOkAt (m : List (List Int)) (l : List Int) (b : Nat) : Bool := (decide (0 ≤ l.getD b (-1)) && decide (l.getD b (-1) ≤ 400)) && apartU m l b b
def colOkU (m : List (List Int)) (l : List Int) (n : Nat) : Bool := (List.range n).all (colOkAt m l)
def chkC (m : List (List Int)) (l : List Int) : Int := if chkM m = 0 then (if l.length = colsN m then (if colOkU m l l.length = true then 0 else 11) else 1) else chkM m
theorem all_succ (p : Nat → Bool) (n : Nat) : (List.range (n + 1)).all p = ((List.range n).all p && p n) := by
  rw [List.range_succ, List.all_append]
  simp
theorem all_false {p : Nat → Bool} {n k : Nat} (hk : k < n) (hp : p k = false) : (List.range n).all p = false := by
  rw [Bool.eq_false_iff]
  intro h
  have := List.all_eq_true.1 h k (List.mem_range.2 hk)
  rw [hp] at this
  cases this



/-- What a call returns: numbers of its own. -/
def OwnRet (l : List Int) (w : World) (e : Ending) (w' : World) : Prop := Below w.heap.size w w' ∧ ∃ v, e = .returned v ∧ OwnI w' w.heap.size v l

set_option maxRecDepth 100000 in
set_option maxHeartbeats 1000000 in
theorem full_any (r : List Int) (a : Option Addr) (cap : Nat) (w : World) (hl : RdI w a r) (hok : ∀ e, e ∈ r → rightB e = true) (hlen : r.length ≤ 1000) :
    Calls Try.prog 27 #[.slice a r.length cap] w (OwnRet (asI (fullL r)) w) := by
  have HL := hid hl; clear hl
  have HOK := hid hok; clear hok
  go_enter Try.func27, Try.ntmps27
  go_wp2
  go_loopg [3, 8] r.length (fun gh s3 s8 wr => ∃ k : Nat, k ≤ r.length ∧ gh = r.length - k ∧ s8 = .int .i64 k ∧ Hid (OwnI wr w.heap.size s3 (asI (fullU r k)) ∧ Below w.heap.size w wr))
  case atStart => exact ⟨0, Nat.zero_le _, rfl, rfl, hid ⟨World.ownsRow_nil _ _ _ _, Below.refl _ _⟩⟩
  case round =>
    obtain ⟨k, hk, rfl, rfl, HB⟩ := hrel
    by_cases hlt : k < r.length
    · have hlt' : (k : Int) < (r.length : Int) := by omega
      obtain ⟨b2, off, ha, hlt2, h1⟩ := (HL.out.below HB.out.2).at hlt
      subst ha
      have hs := fullU_succ r k
      have hfl := fullU_length r k
      have ht := right_at HOK.out hlt
      generalize r.getD k (-1) = x at *
      have HS := hid hs
      have HT := hid ht
      clear hs ht
      have HOWN := hid HB.out.1
      cases hn : nz x with
      | true =>
        have HN := hid hn
        clear hn
        have hsz := HB.out.2.size
        go_wp2_with (first | (go_at_call 51; refine (k72 x _).mono ?_; rw [HT.out, HN.out]; rintro e w' ⟨rfl, rfl⟩) | (at_builtin; refine wpList_append_ints _ rfl _ _ rfl w.heap.size _ _ [(k : Int)] rfl (OwnI.later HOWN.out (bnew _ _)) (some ⟨wr.heap.size, 0, none⟩) 1 rfl (rd_one _ _ _) (by rw [asI_length]; simp; omega) (by simp; omega) ?_; intro v' w3 hown' hgrow hnil))
        go_roundg (r.length - (k + 1))
        case rel =>
          refine ⟨k + 1, by omega, rfl, by go_num, hid ⟨?_, ((HB.out.2).alloc hsz _).grown hgrow (by simp; omega) (own_ge HOWN.out)⟩⟩
          rw [HS.out, if_pos HN.out]
          unfold asI
          rw [List.map_append]
          exact hown'
        case measure => omega
      | false =>
        have HN := hid hn
        clear hn
        go_wp2_with ((go_at_call 51; refine (k72 x _).mono ?_; rw [HT.out, HN.out]; rintro e w' ⟨rfl, rfl⟩))
        go_roundg (r.length - (k + 1))
        case rel =>
          refine ⟨k + 1, by omega, rfl, by go_num, hid ⟨?_, HB.out.2⟩⟩
          rw [HS.out, if_neg (by rw [HN.out]; simp)]
          exact HB.out.1
        case measure => omega
    · have hkr : k = r.length := by omega
      subst hkr
      go_wp2
      go_ret
      exact ⟨HB.out.2, _, rfl, HB.out.1⟩

theorem RdM.row {w : World} {a : Option Addr} {m : List (List Int)} (h : RdM w a m) {i : Nat} (hi : i < m.length) : ∃ b off, a = some ⟨b, off, none⟩ ∧ b < w.heap.size ∧ ∃ ai ci, w.cell? ⟨b, off + i, none⟩ = some (.slice ai (m.getD i []).length ci) ∧ RdI w ai (m.getD i []) := by
  obtain ⟨b, off, ha, hlt, h1⟩ := h i hi
  exact ⟨b, off, ha, hlt, by rw [getD_in hi]; exact h1⟩
theorem RightM.row {m : List (List Int)} (h : RightM m) {i : Nat} (hi : i < m.length) : (m.getD i []).length = colsN m ∧ ∀ e, e ∈ m.getD i [] → rightB e = true := by
  rw [getD_in hi]
  exact ⟨h.len i hi, h.ent i hi⟩

set_option maxRecDepth 100000 in
set_option maxHeartbeats 1000000 in
theorem cmp_any (m : List (List Int)) (a : Option Addr) (cap x y g : Nat) (w : World) (hm : RightM m) (hl : RdM w a m) (hg : w.cell? ⟨g, 0, none⟩ = some (.slice a m.length cap)) (hx : x < m.length) (hy : y < m.length) :
    Calls Try.prog 46 #[.int .i64 x, .int .i64 y, .pointer (some ⟨g, 0, none⟩)] w (RetB (.int .i64 ((manyN (m.getD y []) : Int) - manyN (m.getD x []))) w) := by
  obtain ⟨bx, ox, rfl, hbx, ax, cx, hcx, hrx⟩ := hl.row hx
  obtain ⟨b2, oy, e, hby, ay, cy, hcy, hry⟩ := hl.row hy
  cases e
  have hxl := hm.row hx
  have hyl := hm.row hy
  have hc := hm.cols
  have KX := hid (fun w' (hw : RdI w' ax (m.getD x [])) => full_any (m.getD x []) ax cx w' hw hxl.2 (by omega))
  have KY := hid (fun w' (hw : RdI w' ay (m.getD y [])) => full_any (m.getD y []) ay cy w' hw hyl.2 (by omega))
  have bx1 := manyN_le (m.getD x [])
  have by1 := manyN_le (m.getD y [])
  have n1 : (x : Int) < (m.length : Int) := by omega
  have n2 : (y : Int) < (m.length : Int) := by omega
  rw [hxl.1] at bx1
  rw [hyl.1] at by1
  have HRX := hid hrx
  have HRY := hid hry
  clear hrx hry hl hxl hyl hm
  have MX : Hid (∀ q, (asI (fullL (m.getD q []))).length = manyN (m.getD q [])) := hid fun q => by rw [asI_length]; rfl
  have MXX := MX.out x
  have MXY := MX.out y
  generalize m.getD x [] = rx at *
  generalize m.getD y [] = ry at *
  have hw : IntKind.i64.wrap ((manyN ry : Int) - manyN rx) = (manyN ry : Int) - manyN rx := wrapk (by omega)
  go_enter Try.func46, Try.ntmps46
  go_wp2
  have hb := bdrew w
  go_region_held3 (fun w' => w'.cell? ⟨g, 0, none⟩ = some (.slice (some ⟨bx, ox, none⟩) m.length cap) ∧ w'.cell? ⟨bx, ox + x, none⟩ = some (.slice ax rx.length cx) ∧ w'.cell? ⟨bx, ox + y, none⟩ = some (.slice ay ry.length cy)) (first | exact ⟨hg, hcx, hcy⟩ | exact ⟨cell_later hb hg, cell_later hb hcx, cell_later hb hcy⟩)
    ((first
      | (go_at_call 27; (with_reducible refine (KX.out _ (HRX.out.below hb)).mono ?_); rintro e w9 ⟨hbb, v, rfl, hv⟩; obtain ⟨av, cv, rfl, _⟩ := hv.rd; have hb := hb.step hbb; clear hbb hv)
      | (go_at_call 27; (with_reducible refine (KY.out _ (HRY.out.below hb)).mono ?_); rintro e w9 ⟨hbb, v, rfl, hv⟩; obtain ⟨av, cv, rfl, _⟩ := hv.rd; have hb := hb.step hbb; clear hbb hv)))
  all_goals
    go_wp2
    go_ret
    exact ⟨rfl, hb⟩
end Go.Proofs.Ytecpkjhfbmchgaa
