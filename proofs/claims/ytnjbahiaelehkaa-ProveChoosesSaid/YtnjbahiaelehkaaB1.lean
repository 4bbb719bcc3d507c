/- The reference: in, right, Check. -/
import Derived.Test.YtnjbahiaelehkaaA2
namespace Go.Proofs.Ytnjbahiaelehkaa
open Go.RowKit

theorem in_any (n lo hi : Int) (w : World) :
    Calls Try.prog 64 #[.int .i64 n, .int .i64 lo, .int .i64 hi] w (RetS (.bool (inB n lo hi)) w) := by
  go_enter Try.func64, Try.ntmps64
  go_wp2
  all_goals go_ret
  all_goals exact ⟨ret_bool (by simp [inB]; omega), rfl⟩

set_option maxHeartbeats 1000000 in
theorem rright_any (n A P B Q M : Int) (hn : 1 ≤ n) (hn' : n ≤ 12) (w : World) :
    Calls Try.prog 76 #[.int .i64 n, .agg #[.int .i64 A, .int .i64 P, .int .i64 B, .int .i64 Q, .int .i64 M]] w (RetB (.bool (rightB n ⟨A, P, B, Q, M⟩)) w) := by
  go_enter Try.func76, Try.ntmps76
  go_wp2_with (go_at_call 64; refine (in_any _ _ _ _).mono ?_; rintro e w' ⟨rfl, rfl⟩)
  all_goals go_ret
  all_goals refine ⟨ret_bool ?_, (Below.refl _ _).alloc (Nat.le_refl _) _⟩
  all_goals rw [Bool.eq_iff_iff]
  all_goals simp [rightB, inB] at *
  all_goals first | omega | (split <;> omega)

set_option maxHeartbeats 1000000 in
theorem rcheck_any (n : Int) (l : List AM) (a : Option Addr) (cap : Nat) (w : World) (hl : Rd w a l) (hlen : l.length ≤ 9223372036854775807) :
    Calls Try.prog 32 #[.int .i64 n, .slice a l.length cap] w (RetB (.int .i64 (checkN n l)) w) := by
  have HL := hid hl; clear hl
  by_cases h1 : inB n 1 12 = true
  · have hn : 1 ≤ n ∧ n ≤ 12 := by simpa [inB] using h1
    obtain ⟨hn1, hn2⟩ := hn
    by_cases h2 : 40 < l.length
    · go_enter Try.func32, Try.ntmps32
      go_wp2_with (go_at_call 64; refine (in_any _ _ _ _).mono ?_; rintro e w' ⟨rfl, rfl⟩)
      go_ret
      exact ⟨ret_int (by simp [checkN, h1, h2]), Below.refl _ _⟩
    · go_enter Try.func32, Try.ntmps32
      go_wp2_with (go_at_call 64; refine (in_any _ _ _ _).mono ?_; rintro e w' ⟨rfl, rfl⟩)
      go_loopw [6] (fun i wr => ∃ k : Nat, k ≤ l.length ∧ i = .int .i64 k ∧ Below w.heap.size w wr ∧ ∀ x, x ∈ l.take k → rightB n x = true) (fun i _ => l.length - (intOf i).toNat)
      case atStart => exact ⟨0, Nat.zero_le _, rfl, Below.refl _ _, by simp⟩
      case round =>
        obtain ⟨k, hk, rfl, hbw, hq⟩ := hrel
        have HQ := hid hq; clear hq
        by_cases hlt : k < l.length
        · obtain ⟨b2, off, ha, hlt2, h1', h2', h3, h4, h5⟩ := HL.out.below hbw k hlt
          subst ha
          go_wp2_with (go_at_call 76; refine (rright_any n _ _ _ _ _ hn1 hn2 _).mono ?_; rintro e w' ⟨rfl, hb'⟩)
          · have ht : (!rightB n l[k]) = true := by assumption
            go_ret
            refine ⟨ret_int ?_, hbw.trans (hb'.mono hbw.size)⟩
            have hf : rightsB n l = false := (rightsB_iff n l).1 ⟨l[k], List.getElem_mem _, by simpa using ht⟩
            simp [checkN, h1, h2, hf]
          · have ht : (!rightB n l[k]) = false := by assumption
            go_roundw
            case rel =>
              refine ⟨k + 1, by omega, by go_num, hbw.trans (hb'.mono hbw.size), ?_⟩
              intro x hx
              rw [take_last hlt, List.mem_append] at hx
              rcases hx with hx | hx
              · exact HQ.out x hx
              · rw [List.mem_singleton.1 hx]; simpa using ht
            case measure => simp [intOf]; omega
        · go_wp2
          go_ret
          refine ⟨ret_int ?_, hbw⟩
          have hf : rightsB n l = true := by
            unfold rightsB
            rw [List.all_eq_true]
            intro x hx
            exact HQ.out x (by rw [List.take_of_length_le (by omega)]; exact hx)
          simp [checkN, h1, h2, hf]
  · go_enter Try.func32, Try.ntmps32
    go_wp2_with (go_at_call 64; refine (in_any _ _ _ _).mono ?_; rintro e w' ⟨rfl, rfl⟩)
    go_ret
    exact ⟨ret_int (by simp [checkN, h1]), Below.refl _ _⟩
end Go.Proofs.Ytnjbahiaelehkaa
