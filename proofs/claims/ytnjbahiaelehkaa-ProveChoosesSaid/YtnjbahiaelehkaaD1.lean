/- The reference's other, node and half. -/
import Derived.Test.YtnjbahiaelehkaaB2
import Derived.Test.YtnjbahiaelehkaaM6
namespace Go.Proofs.Ytnjbahiaelehkaa
open Go.RowKit

theorem rother_any (i : Nat) (h1 : i < 24) (w : World) : Calls Try.prog 103 #[.int .i64 i] w (RetS (.int .i64 (ot i)) w) := by
  by_cases hp : i % 2 = 0
  · have e : (((i : Int) % 2) == 0) = true := by simp; omega
    have e2 : ot i = i + 1 := by unfold ot; rw [if_pos hp]
    have E := hid e2
    clear e2
    go_enter Try.func103, Try.ntmps103
    go_wp2
    go_ret
    exact ⟨ret_int (by rw [E.out]; omega), rfl⟩
  · have e : (((i : Int) % 2) == 0) = false := by simp; omega
    have e2 : ot i = i - 1 := by unfold ot; rw [if_neg hp]
    have hpos : 1 ≤ i := by omega
    have E := hid e2
    clear e2
    go_enter Try.func103, Try.ntmps103
    go_wp2
    go_ret
    exact ⟨ret_int (by rw [E.out]; omega), rfl⟩
theorem rnode_any (k s : Int) (h0 : 0 ≤ k) (h1 : k ≤ 1000) (hs : s = 1 ∨ s = -1) (w : World) : Calls Try.prog 105 #[.int .i64 k, .int .i64 s] w (RetS (.int .i64 (nd k s)) w) := by
  rcases hs with rfl | rfl
  · have E := hid (show nd k 1 = 2 * k.toNat from if_pos (by decide))
    go_enter Try.func105, Try.ntmps105
    go_wp2
    go_ret
    exact ⟨ret_int (by rw [E.out]; omega), rfl⟩
  · have E := hid (show nd k (-1) = 2 * k.toNat + 1 from if_neg (by decide))
    go_enter Try.func105, Try.ntmps105
    go_wp2
    go_ret
    exact ⟨ret_int (by rw [E.out]; omega), rfl⟩
/-- What half makes of a number. -/
def halfW (n : Int) : Int := if n < 0 then wrap64 (-wrap64 ((wrap64 (1 - n)).tdiv 2)) else wrap64 (n.tdiv 2)
theorem rhalf_w (n : Int) (w : World) : Calls Try.prog 104 #[.int .i64 n] w (RetS (.int .i64 (halfW n)) w) := by
  by_cases h : n < 0
  · have E := hid (show halfW n = _ from if_pos h)
    go_enter Try.func104, Try.ntmps104
    go_wp2
    go_ret
    exact ⟨ret_int E.out.symm, rfl⟩
  · have E := hid (show halfW n = _ from if_neg h)
    go_enter Try.func104, Try.ntmps104
    go_wp2
    go_ret
    exact ⟨ret_int E.out.symm, rfl⟩
theorem halfW_in {n : Int} (h1 : -2305843009213693952 ≤ n) (h2 : n ≤ 2305843009213693952) : halfW n = n / 2 := by
  unfold halfW
  by_cases h : n < 0
  · rw [if_pos h]
    have e1 : wrap64 (1 - n) = 1 - n := by unfold wrap64; omega
    rw [e1, Int.tdiv_eq_ediv_of_nonneg (by omega)]
    have e2 : wrap64 ((1 - n) / 2) = (1 - n) / 2 := by unfold wrap64; omega
    rw [e2]
    unfold wrap64
    omega
  · rw [if_neg h, Int.tdiv_eq_ediv_of_nonneg (by omega)]
    unfold wrap64
    omega
end Go.Proofs.Ytnjbahiaelehkaa
