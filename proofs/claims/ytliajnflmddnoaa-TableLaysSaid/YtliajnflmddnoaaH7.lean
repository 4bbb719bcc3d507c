/- The walk of TableLays. -/
import Derived.Test.YtliajnflmddnoaaQ16
import Derived.Test.YtliajnflmddnoaaQ13
import Derived.Test.YtliajnflmddnoaaH1
namespace Go.Proofs.Ytliajnflmddnoaa
open Go.RowKit

set_option maxRecDepth 100000 in
set_option maxHeartbeats 8000000 in
theorem lays_ok (m : List (List Int)) (a : Option Addr) (cap : Nat) (w : World) (hl : RdM w a m) (hs : smallB m = true) :
    Calls Try.prog 4 #[.slice a m.length cap] w (RetB (.bool true) w) := by
  have HL := hid hl; clear hl
  obtain ⟨q1, q2⟩ := small_len hs
  have q3 : ∀ r, r ∈ m → r.length ≤ 1000000 := fun r hr => by have := q2 r hr; omega
  have h12 : chkM m = 0 → m.length ≤ 12 := fun h => (small_in hs (chkM_ok h)).1
  have HSM := hid (fun (w : World) (h : RdM w a m) => (by have := small_any m a cap w h (by omega) (fun r hr => by have := q2 r hr; omega); rw [hs] at this; exact this : Calls Try.prog 13 #[.slice a m.length cap] w (RetS (.bool true) w)))
  have H20 := hid (fun (w : World) (h : RdM w a m) => Lay_any m a cap w h (fun h => by have := h12 h; omega) (by omega) q3)
  have H21 := hid (fun (w : World) (h : RdM w a m) => rLay_any m a cap w h (by omega) q3)
  have fI : Fit (layV m) := by
    unfold layV
    split
    · rename_i h
      exact (lay_fit (chkM_ok h) (h12 h)).2.2
    · exact ⟨Nat.zero_le _, Nat.zero_le _⟩
  have HS := hid (fun (I : Ld) (h : Fit I) => same_laid I h)
  have FI := hid fI
  generalize layV m = I at *
  generalize chkM m = ck at *
  have HB := hid (Below.refl w.heap.size w)
  clear hs q1 q2 q3 h12 fI
  go_enter Try.func4, Try.ntmps4
  go_upto_region 5 with (first
    | (go_at_call 13; (with_reducible refine (HSM.out _ HL.out).mono ?_); rintro e w1 ⟨rfl, rfl⟩)
    | (go_at_call 20; (with_reducible refine (H20.out _ (HL.out.below HB.out)).mono ?_); rintro e w2 ⟨hb, sa1, sc1, ca1, cc1, rfl, hld⟩; have hb2 := hb.step (bnew w2 (.cells #[.int .i64 I.cols, .slice sa1 I.starts.length sc1, .slice ca1 I.cells.length cc1] 44)); have HB := hid (HB.out.step hb2); have X1 := hid (heapn w2 (.cells #[.int .i64 I.cols, .slice sa1 I.starts.length sc1, .slice ca1 I.cells.length cc1] 44) _ rfl); have M1 := hid (hld.below (bnew w2 (.cells #[.int .i64 I.cols, .slice sa1 I.starts.length sc1, .slice ca1 I.cells.length cc1] 44))); clear hb hb2 hld)
    | (go_at_call 21; (with_reducible refine (H21.out _ (HL.out.below HB.out)).mono ?_); rintro e w3 ⟨hb, sa2, sc2, ca2, cc2, rfl, hld⟩; have hb2 := hb.step (bnew w3 (.cells #[.int .i64 I.cols, .slice sa2 I.starts.length sc2, .slice ca2 I.cells.length cc2, .int .i64 0, .int .i64 ck] 48)); have HB := hid (HB.out.step hb2); have X1 := hid (keepBox hb2 X1.out); have M1 := hid (M1.out.below hb2); have X2 := hid (heapn w3 (.cells #[.int .i64 I.cols, .slice sa2 I.starts.length sc2, .slice ca2 I.cells.length cc2, .int .i64 0, .int .i64 ck] 48) _ rfl); have M2 := hid (hld.below (bnew w3 (.cells #[.int .i64 I.cols, .slice sa2 I.starts.length sc2, .slice ca2 I.cells.length cc2, .int .i64 0, .int .i64 ck] 48))); clear hb hb2 hld))
  go_wp2_with (first
    | (go_at_call 14; (with_reducible refine (sanity_any _).mono ?_); rintro e w4 ⟨rfl, hb⟩; have HB := hid (HB.out.step hb); have M1 := hid (M1.out.below hb); have M2 := hid (M2.out.below hb); have X1 := hid (keepBox hb X1.out); have X2 := hid (keepBox hb X2.out); obtain ⟨p0, p1, p2, _, _, _⟩ := box3 X1.out; obtain ⟨p3, p4, p5, p6, p7, _, _, _, _, _⟩ := box5 X2.out; clear hb)
    | (go_at_call 22; (with_reducible refine (HS.out I FI.out sa1 sc1 ca1 cc1 sa2 sc2 ca2 cc2 _ M1.out M2.out).mono ?_); rintro e w5 ⟨rfl, hb⟩; have HB := hid (HB.out.step hb); have M1 := hid (M1.out.below hb); have M2 := hid (M2.out.below hb); have X1 := hid (keepBox hb X1.out); have X2 := hid (keepBox hb X2.out); obtain ⟨p0, p1, p2, _, _, _⟩ := box3 X1.out; obtain ⟨p3, p4, p5, p6, p7, _, _, _, _, _⟩ := box5 X2.out; clear hb))
  go_ret
  exact ⟨rfl, HB.out⟩

set_option maxRecDepth 100000 in
set_option maxHeartbeats 2000000 in
theorem lays_any (m : List (List Int)) (a : Option Addr) (cap : Nat) (w : World) (hl : RdM w a m) (hlen : m.length ≤ 9223372036854775807) (hrl : ∀ r, r ∈ m → r.length ≤ 9223372036854775807) :
    Calls Try.prog 4 #[.slice a m.length cap] w (RetB (.bool true) w) := by
  have HSM := hid (small_any m a cap w hl hlen hrl)
  cases hs : smallB m with
  | false =>
    rw [hs] at HSM
    clear hl hrl hs
    go_enter Try.func4, Try.ntmps4
    go_wp2_with (first
      | (go_at_call 13; (with_reducible refine HSM.out.mono ?_); rintro e w1 ⟨rfl, rfl⟩)
      | (go_at_call 14; (with_reducible refine (sanity_any _).mono ?_); rintro e w1 ⟨rfl, hb⟩; have HB := hid hb; clear hb))
    go_ret
    exact ⟨rfl, HB.out⟩
  | true => exact lays_ok m a cap w hl hs
end Go.Proofs.Ytliajnflmddnoaa
