/- ProveFits: the walk. -/
import Derived.Test.YtnjbahiaelehkaaD8
import Derived.Test.YtnjbahiaelehkaaL1
namespace Go.Proofs.Ytnjbahiaelehkaa
open Go.RowKit

set_option maxRecDepth 100000 in
set_option maxHeartbeats 8000000 in
theorem fitslaw_any (n : Int) (l : List AM) (x : List Int) (a : Option Addr) (cap : Nat) (b : Option Addr) (cb : Nat) (w : World) (hl : Rd w a l) (hlen : l.length ≤ 9223372036854775807) (hx : RdI w b x) (hxl : x.length ≤ 9223372036854775807) :
    Calls Try.prog 7 #[.int .i64 n, .slice a l.length cap, .slice b x.length cb] w (RetB (.bool true) w) := by
  have HL := hid hl; clear hl
  have HX := hid hx; clear hx
  have HB := hid (Below.refl w.heap.size w)
  by_cases hs : l.length ≤ 60 ∧ x.length ≤ 40
  · obtain ⟨hs1, hs2⟩ := hs
    have ds : decide (l.length ≤ 60) = true := by simpa using hs1
    have dx : decide (40 < (x.length : Int)) = false := by simp; omega
    go_enter Try.func7, Try.ntmps7
    go_upto_region 4 with (first
      | (go_at_call 16; (with_reducible refine (short_any l a cap _ hlen).mono ?_); rintro e w1 ⟨rfl, rfl⟩)
      | (go_at_call 29; (with_reducible refine (fits_any n l x a cap b cb _ (HL.out.below HB.out) hlen (HX.out.below HB.out) hxl).mono ?_); rintro e w1 ⟨rfl, hb⟩; have HB := hid (HB.out.step hb); clear hb))
    go_upto_region 5 with (go_at_call 30; (with_reducible refine (rfits_any n l x a cap b cb _ (HL.out.below HB.out) hlen (HX.out.below HB.out) hxl).mono ?_); rintro e w1 ⟨rfl, hb⟩; have HB := hid (HB.out.step hb); clear hb)
    have HB := hid (bmore HB.out (.cells #[.int .i64 (fitAt n l x), .bool (fitIs n l x), .int .i64 (fitE n l x)] 56))
    have HQ : Hid ((w1.alloc (.cells #[.int .i64 (fitAt n l x), .bool (fitIs n l x), .int .i64 (fitE n l x)] 56)).heap[w1.heap.size]? = some (.cells #[.int .i64 (fitAt n l x), .bool (fitIs n l x), .int .i64 (fitE n l x)] 56 (0, 0))) := hid (by simp only [heap_alloc_if] <;> simp)
    generalize w1.alloc (.cells #[.int .i64 (fitAt n l x), .bool (fitIs n l x), .int .i64 (fitE n l x)] 56) = W1 at *
    generalize w1.heap.size = q1 at *
    go_wp2_with (first
      | (go_at_call 17; (refine (sanity_any _).mono ?_); rintro e w1 ⟨rfl, hb⟩; have HB := hid (HB.out.step hb); have HQ := hid (keepBox hb HQ.out); clear hb)
      | (go_at_call 31; (with_reducible refine (check_any n l a cap _ (HL.out.below HB.out) hlen).mono ?_); rintro e w1 ⟨rfl, hb⟩; have HB := hid (HB.out.step hb); have HQ := hid (keepBox hb HQ.out); clear hb)
      | (go_at_call 32; (with_reducible refine (rcheck_any n l a cap _ (HL.out.below HB.out) hlen).mono ?_); rintro e w1 ⟨rfl, hb⟩; have HB := hid (HB.out.step hb); have HQ := hid (keepBox hb HQ.out); clear hb; obtain ⟨p0, p1, p2, _, _, _⟩ := box3 HQ.out))
    go_ret
    exact ⟨rfl, HB.out⟩
  · have hs2 : l.length ≤ 60 → ¬x.length ≤ 40 := fun h h2 => hs ⟨h, h2⟩
    by_cases hs1 : l.length ≤ 60
    · have hx2 := hs2 hs1
      have ds : decide (l.length ≤ 60) = true := by simpa using hs1
      have dx : decide (40 < (x.length : Int)) = true := by simp; omega
      clear hs hs2 hx2
      go_enter Try.func7, Try.ntmps7
      go_wp2_with (first
        | (go_at_call 16; (with_reducible refine (short_any l a cap _ hlen).mono ?_); rintro e w1 ⟨rfl, rfl⟩)
        | (go_at_call 17; refine (sanity_any _).mono ?_; rintro e w1 ⟨rfl, hb⟩; have HB := hid (HB.out.step hb); clear hb))
      go_ret
      exact ⟨rfl, HB.out⟩
    · have ds : decide (l.length ≤ 60) = false := by simpa using hs1
      clear hs hs2
      go_enter Try.func7, Try.ntmps7
      go_wp2_with (first
        | (go_at_call 16; (with_reducible refine (short_any l a cap _ hlen).mono ?_); rintro e w1 ⟨rfl, rfl⟩)
        | (go_at_call 17; refine (sanity_any _).mono ?_; rintro e w1 ⟨rfl, hb⟩; have HB := hid (HB.out.step hb); clear hb))
      go_ret
      exact ⟨rfl, HB.out⟩
end Go.Proofs.Ytnjbahiaelehkaa
