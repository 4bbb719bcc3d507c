/- Contracts of the small functions of package table: there, right, the closures of Check, IndexFunc, ContainsFunc, Check. -/
import Derived.Test.YtliajnflmddnoaaP1
namespace Go.Proofs.Ytliajnflmddnoaa
open Go.RowKit

theorem k72 (x : Int) (w : World) : Calls Try.prog 72 #[.int .i64 x] w (RetS (.bool (thereB x)) w) := by
  go_enter Try.func72, Try.ntmps72
  go_wp2
  all_goals go_ret
  all_goals exact ⟨ret_bool (by rw [Bool.eq_iff_iff]; simp [thereB] at *; omega), rfl⟩
theorem k59 (x : Int) (w : World) : Calls Try.prog 59 #[.int .i64 x] w (RetS (.bool (rightB x)) w) := by
  go_enter Try.func59, Try.ntmps59
  go_wp2_with (go_at_call 72; refine (k72 _ _).mono ?_; rintro e w' ⟨rfl, rfl⟩)
  all_goals go_ret
  all_goals exact ⟨ret_bool (by simp [rightB] at * <;> first | assumption | exact .inl (by assumption)), rfl⟩
theorem k67 (a : Option Addr) (n c : Nat) (w : World) : Calls Try.prog 67 #[.slice a n c] w (RetS (.bool (decide (400 < n))) w) := by
  go_enter Try.func67, Try.ntmps67
  go_wp2
  go_ret
  exact ⟨ret_bool (by simp <;> omega), rfl⟩
theorem k68 (x : Int) (w : World) : Calls Try.prog 68 #[.int .i64 x] w (RetS (.bool (!rightB x)) w) := by
  go_enter Try.func68, Try.ntmps68
  go_wp2_with (go_at_call 59; refine (k59 _ _).mono ?_; rintro e w' ⟨rfl, rfl⟩)
  go_ret
  exact ⟨rfl, rfl⟩
theorem k58 (x : Int) (w : World) : Calls Try.prog 58 #[.int .i64 x] w (RetS (.bool (!rightB x)) w) := by
  go_enter Try.func58, Try.ntmps58
  go_wp2_with (go_at_call 59; refine (k59 _ _).mono ?_; rintro e w' ⟨rfl, rfl⟩)
  go_ret
  exact ⟨rfl, rfl⟩

/-- A list of lists of numbers, read off a slice of slices. -/
def RdM (w : World) (a : Option Addr) (m : List (List Int)) : Prop :=
  ∀ i (h : i < m.length), ∃ b off, a = some ⟨b, off, none⟩ ∧ b < w.heap.size ∧ ∃ ai ci, w.cell? ⟨b, off + i, none⟩ = some (.slice ai m[i].length ci) ∧ RdI w ai m[i]
theorem RdM.below {w w' : World} {a : Option Addr} {m : List (List Int)} (h : RdM w a m) (hb : Below w.heap.size w w') : RdM w' a m := by
  intro i hi
  obtain ⟨b, off, ha, hlt, ai, ci, h1, h2⟩ := h i hi
  exact ⟨b, off, ha, Nat.lt_of_lt_of_le hlt hb.size, ai, ci, cell_later hb h1, h2.below hb⟩

set_option maxHeartbeats 1000000 in
theorem index68 (l : List Int) (a : Option Addr) (cap : Nat) (w : World) (hl : RdI w a l) (hlen : l.length ≤ 1000000) :
    Calls Try.prog 84 #[.slice a l.length cap, .func (.func 68) #[] #[]] w (RetS (.int .i64 (idxP (fun x => !rightB x) l)) w) := by
  have HL := hid hl; clear hl
  go_enter Try.func84, Try.ntmps84
  go_wp2
  go_loop [8] (fun i => ∃ j : Nat, j ≤ l.length ∧ i = .int .i64 j ∧ ∀ x, x ∈ l.take j → (!rightB x) = false) (fun i => l.length - (intOf i).toNat)
  case atStart => exact ⟨0, Nat.zero_le _, rfl, by simp⟩
  case round =>
    obtain ⟨j, hj, rfl, hq⟩ := hrel
    have HQ := hid hq; clear hq
    by_cases hlt : j < l.length
    · obtain ⟨b2, off, ha, hlt2, h1⟩ := HL.out j hlt
      subst ha
      go_wp2_with (go_at_call 68; refine (k68 _ _).mono ?_; rintro e w' ⟨rfl, rfl⟩)
      · have ht : (!rightB l[j]) = true := by assumption
        go_ret
        exact ⟨ret_int (idxP_some (p := fun x => !rightB x) hlt ht HQ.out).symm, rfl⟩
      · have ht : (!rightB l[j]) = false := by assumption
        have HT := hid ht; clear ht
        go_round
        case rel =>
          refine ⟨j + 1, by omega, by go_num, ?_⟩
          intro x hx
          rw [take_last hlt, List.mem_append] at hx
          rcases hx with hx | hx
          · exact HQ.out x hx
          · rw [List.mem_singleton.1 hx]; exact HT.out
        case measure => simp [intOf]; omega
    · go_wp2
      go_ret
      exact ⟨ret_int (idxP_none (p := fun x => !rightB x) (fun x hx => HQ.out x (by rw [List.take_of_length_le (by omega)]; exact hx))).symm, rfl⟩
theorem some68 (l : List Int) (a : Option Addr) (cap : Nat) (w : World) (hl : RdI w a l) (hlen : l.length ≤ 1000000) :
    Calls Try.prog 57 #[.slice a l.length cap, .func (.func 68) #[] #[]] w (RetS (.bool (!l.all rightB)) w) := by
  have hx : decide (0 ≤ idxP (fun x => !rightB x) l) = !l.all rightB := by rw [idxP_any, List.all_eq_not_any_not, Bool.not_not]
  have HX := hid hx; clear hx
  go_enter Try.func57, Try.ntmps57
  go_wp2_with (go_at_call 84; refine (index68 l a cap _ hl hlen).mono ?_; rintro e w' ⟨rfl, rfl⟩)
  go_ret
  exact ⟨ret_bool HX.out, rfl⟩

set_option maxHeartbeats 1000000 in
theorem index67 (m : List (List Int)) (a : Option Addr) (cap : Nat) (w : World) (hl : RdM w a m) (hlen : m.length ≤ 1000000) :
    Calls Try.prog 85 #[.slice a m.length cap, .func (.func 67) #[] #[]] w (RetS (.int .i64 (idxP longB m)) w) := by
  have HL := hid hl; clear hl
  go_enter Try.func85, Try.ntmps85
  go_wp2
  go_loop [8] (fun i => ∃ j : Nat, j ≤ m.length ∧ i = .int .i64 j ∧ ∀ x, x ∈ m.take j → longB x = false) (fun i => m.length - (intOf i).toNat)
  case atStart => exact ⟨0, Nat.zero_le _, rfl, by simp⟩
  case round =>
    obtain ⟨j, hj, rfl, hq⟩ := hrel
    have HQ := hid hq; clear hq
    by_cases hlt : j < m.length
    · obtain ⟨b2, off, ha, hlt2, ai, ci, h1, h2⟩ := HL.out j hlt
      subst ha
      clear h2
      go_wp2_with (go_at_call 67; refine (k67 _ _ _ _).mono ?_; rintro e w' ⟨rfl, rfl⟩)
      · have ht : longB m[j] = true := by unfold longB; simpa using (by assumption : 400 < m[j].length)
        go_ret
        exact ⟨ret_int (idxP_some hlt ht HQ.out).symm, rfl⟩
      · have ht : longB m[j] = false := by unfold longB; simpa using (by assumption : ¬ 400 < m[j].length)
        have HT := hid ht; clear ht
        go_round
        case rel =>
          refine ⟨j + 1, by omega, by go_num, ?_⟩
          intro x hx
          rw [take_last hlt, List.mem_append] at hx
          rcases hx with hx | hx
          · exact HQ.out x hx
          · rw [List.mem_singleton.1 hx]; exact HT.out
        case measure => simp [intOf]; omega
    · go_wp2
      go_ret
      exact ⟨ret_int (idxP_none (fun x hx => HQ.out x (by rw [List.take_of_length_le (by omega)]; exact hx))).symm, rfl⟩
theorem some67 (m : List (List Int)) (a : Option Addr) (cap : Nat) (w : World) (hl : RdM w a m) (hlen : m.length ≤ 1000000) :
    Calls Try.prog 66 #[.slice a m.length cap, .func (.func 67) #[] #[]] w (RetS (.bool (m.any longB)) w) := by
  have hx := idxP_any longB m
  have HX := hid hx; clear hx
  go_enter Try.func66, Try.ntmps66
  go_wp2_with (go_at_call 85; refine (index67 m a cap _ hl hlen).mono ?_; rintro e w' ⟨rfl, rfl⟩)
  go_ret
  exact ⟨ret_bool HX.out, rfl⟩

theorem RdM.head {w : World} {a : Option Addr} {m : List (List Int)} (h : RdM w a m) (h0 : 0 < m.length) : ∃ b off, a = some ⟨b, off, none⟩ ∧ b < w.heap.size ∧ ∃ ai ci, w.cell? ⟨b, off, none⟩ = some (.slice ai (colsN m) ci) := by
  obtain ⟨b, off, ha, hlt, ai, ci, h1, _⟩ := h 0 h0
  refine ⟨b, off, ha, hlt, ai, ci, ?_⟩
  have e : colsN m = m[0].length := by
    unfold colsN
    cases m with
    | nil => cases h0
    | cons r m => rfl
  rw [e]
  exact h1

set_option maxHeartbeats 1000000 in
theorem check_any (m : List (List Int)) (a : Option Addr) (cap : Nat) (w : World) (hl : RdM w a m) (hlen : m.length ≤ 1000000) (hrl : ∀ r, r ∈ m → r.length ≤ 1000000) :
    Calls Try.prog 28 #[.slice a m.length cap] w (RetS (.int .i64 (chkM m)) w) := by
  have HL := hid hl; clear hl
  have HR := hid hrl; clear hrl
  go_enter Try.func28, Try.ntmps28
  by_cases h1 : 60 < m.length
  · have h1' : decide ((60 : Int) < (m.length : Int)) = true := by simp; omega
    have h1'' : (60 : Int) < (m.length : Int) := by omega
    go_wp2
    go_ret
    exact ⟨ret_int (by unfold chkM; rw [if_pos (.inl h1)]), rfl⟩
  have h1' : decide ((60 : Int) < (m.length : Int)) = false := by simp; omega
  have h1'' : ¬ (60 : Int) < (m.length : Int) := by omega
  cases h2 : m.any longB with
  | true =>
    have H2 := hid h2
    clear h2
    go_wp2_with (go_at_call 66; refine (some67 m a cap _ HL.out hlen).mono ?_; rw [H2.out]; rintro e w' ⟨rfl, rfl⟩)
    go_ret
    exact ⟨ret_int (by unfold chkM; rw [if_pos (.inr H2.out)]), rfl⟩
  | false =>
    have H2 := hid h2
    clear h2
    have H12 : Hid (¬ (60 < m.length ∨ m.any longB = true)) := hid (by rw [H2.out, not_or]; exact ⟨h1, by simp⟩)
    by_cases h3 : m.length = 0
    · have h3' : ((m.length : Int) == 0) = true := by rw [beq_iff_eq]; omega
      have H3 := hid h3
      clear h3
      go_wp2_with (go_at_call 66; refine (some67 m a cap _ HL.out hlen).mono ?_; rw [H2.out]; rintro e w' ⟨rfl, rfl⟩)
      go_ret
      exact ⟨ret_int (by unfold chkM; rw [if_neg H12.out, if_pos H3.out]), rfl⟩
    have h3' : ((m.length : Int) == 0) = false := by rw [beq_eq_false_iff_ne]; omega
    have H3 := hid h3
    obtain ⟨b0, o0, ha, hlt0, ai0, ci0, hc0⟩ := HL.out.head (by omega)
    subst ha
    go_wp2_with (go_at_call 66; refine (some67 m _ cap _ HL.out hlen).mono ?_; rw [H2.out]; rintro e w' ⟨rfl, rfl⟩)
    go_loop [17] (fun i => ∃ j : Nat, j ≤ m.length ∧ i = .int .i64 j ∧ ∀ x, x ∈ m.take j → evenB m x = true) (fun i => m.length - (intOf i).toNat)
    case atStart => exact ⟨0, Nat.zero_le _, rfl, by simp⟩
    case round =>
      obtain ⟨j, hj, rfl, hq⟩ := hrel
      have HQ := hid hq; clear hq
      by_cases hlt : j < m.length
      · obtain ⟨b2, off, ha, hlt2, aj, cj, h4, h5⟩ := HL.out j hlt
        cases ha
        have hjl := HR.out _ (List.getElem_mem hlt)
        have fail1 : evenB m m[j] = false → Hid (chkM m = 1) := fun hf => hid (by
          unfold chkM
          rw [if_neg H12.out, if_neg H3.out, if_neg]
          intro ht
          have := List.all_eq_true.1 ht _ (List.getElem_mem hlt)
          rw [hf] at this
          cases this)
        have FAIL := hid fail1
        clear fail1
        by_cases h6 : m[j].length = colsN m
        · have h6' : ((m[j].length : Int) != (colsN m : Int)) = false := by simp; omega
          have H6 := hid h6
          clear h6
          cases h7 : m[j].all rightB with
          | true =>
            have H7 := hid h7
            clear h7
            go_wp2_with (go_at_call 57; refine (some68 m[j] aj cj _ h5 hjl).mono ?_; rw [H7.out]; rintro e w' ⟨rfl, rfl⟩)
            go_round
            case rel =>
              refine ⟨j + 1, by omega, by go_num, ?_⟩
              intro x hx
              rw [take_last hlt, List.mem_append] at hx
              rcases hx with hx | hx
              · exact HQ.out x hx
              · rw [List.mem_singleton.1 hx]; unfold evenB; rw [H7.out, H6.out]; simp
            case measure => simp [intOf]; omega
          | false =>
            have H7 := hid h7
            clear h7
            go_wp2_with (go_at_call 57; refine (some68 m[j] aj cj _ h5 hjl).mono ?_; rw [H7.out]; rintro e w' ⟨rfl, rfl⟩)
            go_ret
            exact ⟨ret_int (FAIL.out (by unfold evenB; rw [H7.out, Bool.and_false])).out.symm, rfl⟩
        · have h6' : ((m[j].length : Int) != (colsN m : Int)) = true := by simp; omega
          have H6 := hid h6
          clear h6
          go_wp2
          go_ret
          exact ⟨ret_int (FAIL.out (by unfold evenB; rw [show (m[j].length == colsN m) = false from by simpa using H6.out, Bool.false_and])).out.symm, rfl⟩
      · go_wp2
        go_ret
        exact ⟨ret_int (by
          unfold chkM
          rw [if_neg H12.out, if_neg H3.out, if_pos]
          exact List.all_eq_true.2 fun x hx => HQ.out x (by rw [List.take_of_length_le (by omega)]; exact hx)), rfl⟩
end Go.Proofs.Ytliajnflmddnoaa
