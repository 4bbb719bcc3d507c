/- Contracts of the reference's small functions, of comparing numbers and matrices, of the statements' sizes, and the example. -/
import Derived.Test.YtecpkjhfbmchgaaG22
namespace Go.Proofs.Ytecpkjhfbmchgaa
open Go.RowKit

set_option maxHeartbeats 1000000 in
theorem same_ints (x y : List Int) (a b : Option Addr) (cap cap' : Nat) (w : World) (hx : RdI w a x) (hy : RdI w b y) (hl : x.length ≤ 1000000) (hl' : y.length ≤ 1000000) :
    Calls Try.prog 6 #[.slice a x.length cap, .slice b y.length cap'] w (RetB (.bool (decide (x = y))) w) := by
  have HX := hid hx; clear hx
  have HY := hid hy; clear hy
  by_cases hlen : x.length = y.length
  · have HLEN := hid hlen
    have hne : ((x.length : Int) != (y.length : Int)) = false := by simp [hlen]
    clear hlen
    go_enter Try.func6, Try.ntmps6
    go_wp2
    clear hne
    go_loopw [5] (fun i wr => ∃ k : Nat, k ≤ x.length ∧ i = .int .i64 k ∧ Below w.heap.size w wr ∧ x.take k = y.take k) (fun i _ => x.length - (intOf i).toNat)
    case atStart => exact ⟨0, Nat.zero_le _, rfl, Below.refl _ _, rfl⟩
    case round =>
      obtain ⟨k, hk, rfl, hbw, hq⟩ := hrel
      have HQ := hid hq; clear hq
      by_cases hlt : k < x.length
      · have hlt' : k < y.length := by have := HLEN.out; omega
        obtain ⟨b1, o1, ha, h1, hc1⟩ := HX.out.below hbw k hlt
        obtain ⟨b2, o2, hb, h2, hc2⟩ := HY.out.below hbw k hlt'
        subst ha; subst hb
        go_upto_region 6 with fail
        go_quiet (fail)
        go_wp2
        · have ht : (x[k] != y[k]) = true := by assumption
          go_ret
          refine ⟨ret_bool ?_, bdrewN hbw _⟩
          rw [eq_comm, decide_eq_false_iff_not]
          rintro rfl
          simp at ht
        · have ht : (x[k] != y[k]) = false := by assumption
          go_roundw
          case rel =>
            refine ⟨k + 1, by omega, by go_num, bdrewN hbw _, ?_⟩
            rw [take_last hlt, take_last hlt', HQ.out]
            have : x[k] = y[k] := by simpa using ht
            rw [this]
          case measure => simp [intOf]; omega
      · go_wp2
        go_ret
        refine ⟨ret_bool ?_, hbw⟩
        rw [eq_comm, decide_eq_true_eq]
        have h := HQ.out
        rw [List.take_of_length_le (by omega), List.take_of_length_le (by have := HLEN.out; omega)] at h
        exact h
  · have hne : ((x.length : Int) != (y.length : Int)) = true := by simp; omega
    go_enter Try.func6, Try.ntmps6
    go_wp2
    go_ret
    refine ⟨ret_bool ?_, Below.refl _ _⟩
    rw [eq_comm, decide_eq_false_iff_not]
    rintro rfl
    exact hlen rfl

def manyU (r : List Int) (k : Nat) : Nat := (fullU r k).length
theorem manyU_succ (r : List Int) (k : Nat) : manyU r (k + 1) = if nz (r.getD k (-1)) = true then manyU r k + 1 else manyU r k := by
  unfold manyU
  rw [fullU_succ]
  split <;> simp
theorem manyU_le (r : List Int) (k : Nat) : manyU r k ≤ k := fullU_length r k
/-- The sizes that the statements speak of. -/
def lenOk (r : List Int) : Bool := !((decide (40 < r.length) && decide (r.length ≤ 400)) || decide (420 < r.length))
def smallB (m : List (List Int)) : Bool := m.all lenOk && (decide (m.length ≤ 12) || (decide (60 < m.length) && decide (m.length ≤ 70)))
theorem small_all {m : List (List Int)} (h : m.all lenOk = false) : smallB m = false := by unfold smallB; rw [h]; rfl
def lightB (L : Ld) : Bool := (decide (L.starts.length ≤ 70) && decide (L.cells.length ≤ 600)) && decide (L.cols ≤ 60)
end Go.Proofs.Ytecpkjhfbmchgaa
