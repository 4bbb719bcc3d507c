/- ProveBounds: the walk. -/
import Derived.Test.YtnjbahiaelehkaaD7
import Derived.Test.YtnjbahiaelehkaaL1
namespace Go.Proofs.Ytnjbahiaelehkaa
open Go.RowKit

set_option maxRecDepth 100000 in
set_option maxHeartbeats 8000000 in
theorem bounds_any (n : Int) (l : List AM) (A P B Q M : Int) (k : Int) (a : Option Addr) (cap : Nat) (w : World) (hl : Rd w a l) (hlen : l.length ≤ 9223372036854775807) :
    Calls Try.prog 3 #[.int .i64 n, .slice a l.length cap, .agg #[.int .i64 A, .int .i64 P, .int .i64 B, .int .i64 Q, .int .i64 M], .int .i64 k] w (RetB (.bool true) w) := by
  have HL := hid hl; clear hl
  have HB := hid (bnew w (.cells #[.int .i64 A, .int .i64 P, .int .i64 B, .int .i64 Q, .int .i64 M] 24))
  have HX : Hid ((w.alloc (.cells #[.int .i64 A, .int .i64 P, .int .i64 B, .int .i64 Q, .int .i64 M] 24)).heap[w.heap.size]? = some (.cells #[.int .i64 A, .int .i64 P, .int .i64 B, .int .i64 Q, .int .i64 M] 24 (0, 0))) := hid (by simp only [heap_alloc_if] <;> simp)
  by_cases hs : l.length ≤ 60
  · have ds : decide (l.length ≤ 60) = true := by simpa using hs
    obtain ⟨k0, k1, k2, k3, k4⟩ := AMat.of (x := ⟨A, P, B, Q, M⟩) HX.out
    simp only [Nat.zero_add] at k0 k1 k2 k3 k4
    go_enter Try.func3, Try.ntmps3
    go_upto_region 4 with (first
      | (go_at_call 16; (with_reducible refine (short_any l a cap _ hlen).mono ?_); rintro e w1 ⟨rfl, rfl⟩)
      | (go_at_call 18; (with_reducible refine (most_any n l A P B Q M a cap _ (HL.out.below HB.out) (by omega)).mono ?_); rintro e w1 ⟨rfl, hb⟩; have HB := hid (HB.out.step hb); have HX := hid (keepBox hb HX.out); clear hb; obtain ⟨k0, k1, k2, k3, k4⟩ := AMat.of (x := ⟨A, P, B, Q, M⟩) HX.out; simp only [Nat.zero_add] at k0 k1 k2 k3 k4))
    go_upto_region 5 with (go_at_call 19; (with_reducible refine (rMost_any n l A P B Q M a cap _ (HL.out.below HB.out) (by omega)).mono ?_); rintro e w1 ⟨rfl, hb, _, _⟩; have HB := hid (HB.out.step hb); have HX := hid (keepBox hb HX.out); clear hb)
    have HB := hid (bmore HB.out (.cells #[.int .i64 (mostV n l ⟨A, P, B, Q, M⟩), .int .i64 (mostC n l ⟨A, P, B, Q, M⟩)] 31))
    have HQ : Hid ((w1.alloc (.cells #[.int .i64 (mostV n l ⟨A, P, B, Q, M⟩), .int .i64 (mostC n l ⟨A, P, B, Q, M⟩)] 31)).heap[w1.heap.size]? = some (.cells #[.int .i64 (mostV n l ⟨A, P, B, Q, M⟩), .int .i64 (mostC n l ⟨A, P, B, Q, M⟩)] 31 (0, 0))) := hid (by simp only [heap_alloc_if] <;> simp)
    generalize w1.alloc (.cells #[.int .i64 (mostV n l ⟨A, P, B, Q, M⟩), .int .i64 (mostC n l ⟨A, P, B, Q, M⟩)] 31) = W1 at *
    generalize w1.heap.size = q1 at *
    clear k0 k1 k2 k3 k4
    go_upto_region 6 with (go_at_call 20; (with_reducible refine (span_any n l k a cap _ (HL.out.below HB.out) (by omega)).mono ?_); rintro e w1 ⟨rfl, hb⟩; have HB := hid (HB.out.step hb); have HQ := hid (keepBox hb HQ.out); clear hb)
    go_upto_region 7 with (go_at_call 21; (with_reducible refine (rSpan_any n l k a cap _ (HL.out.below HB.out) (by omega)).mono ?_); rintro e w1 ⟨rfl, hb⟩; have HB := hid (HB.out.step hb); have HQ := hid (keepBox hb HQ.out); clear hb)
    have HB := hid (bmore HB.out (.cells #[.int .i64 (spanLo n l k), .int .i64 (spanHi n l k), .int .i64 (spanE n l k)] 36))
    have HP : Hid ((w1.alloc (.cells #[.int .i64 (spanLo n l k), .int .i64 (spanHi n l k), .int .i64 (spanE n l k)] 36)).heap[w1.heap.size]? = some (.cells #[.int .i64 (spanLo n l k), .int .i64 (spanHi n l k), .int .i64 (spanE n l k)] 36 (0, 0))) := hid (by simp only [heap_alloc_if] <;> simp)
    have HQ := hid (keepBox (bnew _ (.cells #[.int .i64 (spanLo n l k), .int .i64 (spanHi n l k), .int .i64 (spanE n l k)] 36)) HQ.out)
    generalize w1.alloc (.cells #[.int .i64 (spanLo n l k), .int .i64 (spanHi n l k), .int .i64 (spanE n l k)] 36) = W2 at *
    generalize w1.heap.size = q2 at *
    go_wp2_with (go_at_call 17; (refine (sanity_any _).mono ?_); rintro e w1 ⟨rfl, hb⟩; have HB := hid (HB.out.step hb); have HQ := hid (keepBox hb HQ.out); have HP := hid (keepBox hb HP.out); clear hb; obtain ⟨s0, s1, _, _⟩ := box2 HQ.out; obtain ⟨p0, p1, p2, _, _, _⟩ := box3 HP.out)
    go_ret
    exact ⟨rfl, HB.out⟩
  · have ds : decide (l.length ≤ 60) = false := by simpa using hs
    go_enter Try.func3, Try.ntmps3
    go_wp2_with (first
      | (go_at_call 16; (with_reducible refine (short_any l a cap _ hlen).mono ?_); rintro e w1 ⟨rfl, rfl⟩)
      | (go_at_call 17; refine (sanity_any _).mono ?_; rintro e w1 ⟨rfl, hb⟩; have HB := hid (HB.out.step hb); clear hb))
    go_ret
    exact ⟨rfl, HB.out⟩
end Go.Proofs.Ytnjbahiaelehkaa
