/- The walk of TableFolds. -/
import Derived.Test.YtliajnflmddnoaaQ17
import Derived.Test.YtliajnflmddnoaaQ14
import Derived.Test.YtliajnflmddnoaaQ13
import Derived.Test.YtliajnflmddnoaaH1
namespace Go.Proofs.Ytliajnflmddnoaa
open Go.RowKit

theorem fold_sizes (m : List (List Int)) : (foldC m).length ≤ 1000000 ∧ (foldV m).length ≤ 1000000 ∧ ∀ q, q ∈ foldV m → q.length ≤ 1000000 := by
  by_cases hE : chkM m = 0
  · have hm := chkM_ok hE
    have h1 := hm.cols
    have h2 := hm.rows
    have e1 : foldC m = asI (colL m (colsN m)) := by unfold foldC; rw [if_pos hE]; rfl
    have e2 : foldV m = foldG m := by unfold foldV; rw [if_pos hE]
    rw [e1, e2]
    refine ⟨by rw [asI_length, colL_length]; omega, by unfold foldG; rw [List.length_map]; omega, fun q hq => ?_⟩
    unfold foldG at hq
    obtain ⟨row, _, rfl⟩ := List.mem_map.1 hq
    unfold foldRow
    rw [foldU_length]
    have := many_cols m (colsN m)
    omega
  · have e1 : foldC m = [] := by unfold foldC; rw [if_neg hE]
    have e2 : foldV m = [] := by unfold foldV; rw [if_neg hE]
    rw [e1, e2]
    exact ⟨Nat.zero_le _, Nat.zero_le _, fun q hq => by cases hq⟩

set_option maxRecDepth 100000 in
set_option maxHeartbeats 8000000 in
theorem folds_ok (m : List (List Int)) (a : Option Addr) (cap : Nat) (C : List Int) (R : List (List (Int × Int))) (ac : Option Addr) (cc : Nat) (ar : Option Addr) (cr : Nat) (r c : Int) (w : World) (hl : RdM w a m) (hc : RdI w ac C) (hr : RdG w ar R) (hrr : ∀ q, q ∈ R → q.length ≤ 9223372036854775807) (hs : smallB m = true) (h70 : R.length ≤ 70) (h420 : C.length ≤ 420) :
    Calls Try.prog 3 #[.slice a m.length cap, .agg #[.slice ac C.length cc, .slice ar R.length cr], .int .i64 r, .int .i64 c] w (RetB (.bool true) w) := by
  have HL := hid hl; clear hl
  have HC := hid hc; clear hc
  have HR := hid hr; clear hr
  obtain ⟨q1, q2⟩ := small_len hs
  have q3 : ∀ r, r ∈ m → r.length ≤ 1000000 := fun r hr => by have := q2 r hr; omega
  have HSM := hid (fun (w : World) (h : RdM w a m) => (by have := small_any m a cap w h (by omega) (fun r hr => by have := q2 r hr; omega); rw [hs] at this; exact this : Calls Try.prog 13 #[.slice a m.length cap] w (RetS (.bool true) w)))
  have H15 := hid (fun (w : World) (h : RdM w a m) => Fold_any m a cap w h (by omega) q3)
  have H16 := hid (fun (w : World) (h : RdM w a m) => rFold_any m a cap w h (by omega) q3)
  have H17 := hid (fun (w : World) (h1 : RdI w ac C) (h2 : RdG w ar R) => Pick_any C R r c ac cc ar cr w h1 h2 (by omega) (by omega) hrr)
  have H18 := hid (fun (w : World) (h1 : RdI w ac C) (h2 : RdG w ar R) => rPick_any C R r c ac cc ar cr w h1 h2 (by omega) (by omega) hrr)
  obtain ⟨f1, f2, f3⟩ := fold_sizes m
  have HS := hid (fun a1 c1 a2 c2 a3 c3 a4 c4 (w : World) h1 h2 h3 h4 => same_folded (foldC m) (foldV m) a1 c1 a2 c2 a3 c3 a4 c4 w f1 f2 f3 h1 h2 h3 h4)
  generalize foldC m = fC at *
  generalize foldV m = fV at *
  generalize chkM m = ck at *
  generalize pickV C R r c = pv at *
  generalize pickE C R r c = pe at *
  have n70 : ¬ (70 : Int) < (R.length : Int) := by omega
  have d70 : decide ((70 : Int) < (R.length : Int)) = false := decide_eq_false n70
  have n420 : ¬ (420 : Int) < (C.length : Int) := by omega
  have d420 : decide ((420 : Int) < (C.length : Int)) = false := decide_eq_false n420
  have HB := hid (bnew w (.cells #[.slice ac C.length cc, .slice ar R.length cr] 26))
  have HX := hid (heapn w (.cells #[.slice ac C.length cc, .slice ar R.length cr] 26) _ rfl)
  obtain ⟨k0, k1, _, _⟩ := box2 HX.out
  obtain ⟨g5, hg5⟩ : ∃ g, g = w.heap.size := ⟨_, rfl⟩
  clear hs q1 q2 q3 f1 f2 f3 hrr
  go_enter Try.func3, Try.ntmps3
  go_wp2_with fail
  generalize w.alloc (.cells #[.slice ac C.length cc, .slice ar R.length cr] 26) = w1 at *
  rw [← hg5] at k0 k1 HX
  rw [← hg5]
  clear hg5
  go_upto_region 7 with (first
    | (go_at_call 13; (with_reducible refine (HSM.out _ (HL.out.below HB.out)).mono ?_); rintro e w2 ⟨rfl, rfl⟩)
    | (go_at_call 15; (with_reducible refine (H15.out _ (HL.out.below HB.out)).mono ?_); rintro e w3 ⟨hb, a1, c1, a2, c2, rfl, hm1, hn1⟩; have hb2 := hb.step (bnew w3 (.cells #[.slice a1 fC.length c1, .slice a2 fV.length c2] 26)); have HB := hid (HB.out.step hb2); have HX := hid (keepBox hb2 HX.out); obtain ⟨k0, k1, _, _⟩ := box2 HX.out; have X1 := hid (heapn w3 (.cells #[.slice a1 fC.length c1, .slice a2 fV.length c2] 26) _ rfl); have M1 := hid (hm1.below (bnew w3 (.cells #[.slice a1 fC.length c1, .slice a2 fV.length c2] 26))); have N1 := hid (hn1.below (bnew w3 (.cells #[.slice a1 fC.length c1, .slice a2 fV.length c2] 26))); clear hb hb2 hm1 hn1)
    | (go_at_call 16; (with_reducible refine (H16.out _ (HL.out.below HB.out)).mono ?_); rintro e w4 ⟨hb, a3, c3, a4, c4, rfl, hm1, hn1⟩; have hb2 := hb.step (bnew w4 (.cells #[.slice a3 fC.length c3, .slice a4 fV.length c4, .int .i64 ck] 33)); have HB := hid (HB.out.step hb2); have HX := hid (keepBox hb2 HX.out); have X1 := hid (keepBox hb2 X1.out); have M1 := hid (M1.out.below hb2); have N1 := hid (N1.out.below hb2); obtain ⟨k0, k1, _, _⟩ := box2 HX.out; have X2 := hid (heapn w4 (.cells #[.slice a3 fC.length c3, .slice a4 fV.length c4, .int .i64 ck] 33) _ rfl); have M2 := hid (hm1.below (bnew w4 (.cells #[.slice a3 fC.length c3, .slice a4 fV.length c4, .int .i64 ck] 33))); have N2 := hid (hn1.below (bnew w4 (.cells #[.slice a3 fC.length c3, .slice a4 fV.length c4, .int .i64 ck] 33))); clear hb hb2 hm1 hn1)
    | (go_at_call 17; (with_reducible refine (H17.out _ (HC.out.below HB.out) (HR.out.below HB.out)).mono ?_); rintro e w5 ⟨rfl, hb⟩; have HB := hid (HB.out.step hb); have HX := hid (keepBox hb HX.out); have X1 := hid (keepBox hb X1.out); have M1 := hid (M1.out.below hb); have N1 := hid (N1.out.below hb); have X2 := hid (keepBox hb X2.out); have M2 := hid (M2.out.below hb); have N2 := hid (N2.out.below hb); obtain ⟨k0, k1, _, _⟩ := box2 HX.out; clear hb)
    | (go_at_call 18; (with_reducible refine (H18.out _ (HC.out.below HB.out) (HR.out.below HB.out)).mono ?_); rintro e w6 ⟨rfl, hb⟩; have hb2 := hb.step (bnew w6 (.cells #[.int .i64 pv, .int .i64 pe] 38)); have HB := hid (HB.out.step hb2); have HX := hid (keepBox hb2 HX.out); have X1 := hid (keepBox hb2 X1.out); have M1 := hid (M1.out.below hb2); have N1 := hid (N1.out.below hb2); have X2 := hid (keepBox hb2 X2.out); have M2 := hid (M2.out.below hb2); have N2 := hid (N2.out.below hb2); obtain ⟨k0, k1, _, _⟩ := box2 HX.out; have X3 := hid (heapn w6 (.cells #[.int .i64 pv, .int .i64 pe] 38) _ rfl); clear hb hb2))
  clear k0 k1
  go_wp2_with (first
    | (go_at_call 14; (with_reducible refine (sanity_any _).mono ?_); rintro e w7 ⟨rfl, hb⟩; have HB := hid (HB.out.step hb); have X1 := hid (keepBox hb X1.out); have M1 := hid (M1.out.below hb); have N1 := hid (N1.out.below hb); have X2 := hid (keepBox hb X2.out); have M2 := hid (M2.out.below hb); have N2 := hid (N2.out.below hb); have X3 := hid (keepBox hb X3.out); obtain ⟨p0, p1, _, _⟩ := box2 X1.out; obtain ⟨p2, p3, p4, _, _, _⟩ := box3 X2.out; obtain ⟨p5, p6, _, _⟩ := box2 X3.out; clear hb)
    | (go_at_call 19; (with_reducible refine (HS.out a1 c1 a2 c2 a3 c3 a4 c4 _ M1.out N1.out M2.out N2.out).mono ?_); rintro e w8 ⟨rfl, hb⟩; have HB := hid (HB.out.step hb); have X1 := hid (keepBox hb X1.out); have M1 := hid (M1.out.below hb); have N1 := hid (N1.out.below hb); have X2 := hid (keepBox hb X2.out); have M2 := hid (M2.out.below hb); have N2 := hid (N2.out.below hb); have X3 := hid (keepBox hb X3.out); obtain ⟨p0, p1, _, _⟩ := box2 X1.out; obtain ⟨p2, p3, p4, _, _, _⟩ := box3 X2.out; obtain ⟨p5, p6, _, _⟩ := box2 X3.out; clear hb))
  go_ret
  exact ⟨rfl, HB.out⟩

set_option maxRecDepth 100000 in
set_option maxHeartbeats 2000000 in
theorem folds_any (m : List (List Int)) (a : Option Addr) (cap : Nat) (C : List Int) (R : List (List (Int × Int))) (ac : Option Addr) (cc : Nat) (ar : Option Addr) (cr : Nat) (r c : Int) (w : World) (hl : RdM w a m) (hlen : m.length ≤ 9223372036854775807) (hrl : ∀ r, r ∈ m → r.length ≤ 9223372036854775807) (hc : RdI w ac C) (hr : RdG w ar R) (hcl : C.length ≤ 9223372036854775807) (hRl : R.length ≤ 9223372036854775807) (hrr : ∀ q, q ∈ R → q.length ≤ 9223372036854775807) :
    Calls Try.prog 3 #[.slice a m.length cap, .agg #[.slice ac C.length cc, .slice ar R.length cr], .int .i64 r, .int .i64 c] w (RetB (.bool true) w) := by
  have HSM := hid (fun w (h : RdM w a m) => small_any m a cap w h hlen hrl)
  have HL := hid hl
  have HB := hid (bnew w (.cells #[.slice ac C.length cc, .slice ar R.length cr] 26))
  obtain ⟨k0, k1, _, _⟩ := box2 (heapn w (.cells #[.slice ac C.length cc, .slice ar R.length cr] 26) _ rfl)
  cases hs : smallB m with
  | false =>
    rw [hs] at HSM
    clear hl hrl hs hc hr hrr
    go_enter Try.func3, Try.ntmps3
    go_wp2_with (first
      | (go_at_call 13; (with_reducible refine (HSM.out _ (HL.out.below HB.out)).mono ?_); rintro e w1 ⟨rfl, rfl⟩)
      | (go_at_call 14; (with_reducible refine (sanity_any _).mono ?_); rintro e w1 ⟨rfl, hb⟩; have HB := hid (HB.out.step hb); clear hb))
    go_ret
    exact ⟨rfl, HB.out⟩
  | true =>
    by_cases h70 : R.length ≤ 70
    · by_cases h420 : C.length ≤ 420
      · exact folds_ok m a cap C R ac cc ar cr r c w hl hc hr hrr hs h70 h420
      · rw [hs] at HSM
        have n70 : ¬ (70 : Int) < (R.length : Int) := by omega
        have d70 : decide ((70 : Int) < (R.length : Int)) = false := decide_eq_false n70
        have n420 : (420 : Int) < (C.length : Int) := by omega
        have d420 : decide ((420 : Int) < (C.length : Int)) = true := decide_eq_true n420
        clear hl hrl hs hc hr hrr
        go_enter Try.func3, Try.ntmps3
        go_wp2_with (first
          | (go_at_call 13; (with_reducible refine (HSM.out _ (HL.out.below HB.out)).mono ?_); rintro e w1 ⟨rfl, rfl⟩)
          | (go_at_call 14; (with_reducible refine (sanity_any _).mono ?_); rintro e w1 ⟨rfl, hb⟩; have HB := hid (HB.out.step hb); clear hb))
        go_ret
        exact ⟨rfl, HB.out⟩
    · rw [hs] at HSM
      have n70 : (70 : Int) < (R.length : Int) := by omega
      have d70 : decide ((70 : Int) < (R.length : Int)) = true := decide_eq_true n70
      clear hl hrl hs hc hr hrr
      go_enter Try.func3, Try.ntmps3
      go_wp2_with (first
        | (go_at_call 13; (with_reducible refine (HSM.out _ (HL.out.below HB.out)).mono ?_); rintro e w1 ⟨rfl, rfl⟩)
        | (go_at_call 14; (with_reducible refine (sanity_any _).mono ?_); rintro e w1 ⟨rfl, hb⟩; have HB := hid (HB.out.step hb); clear hb))
      go_ret
      exact ⟨rfl, HB.out⟩
end Go.Proofs.Ytliajnflmddnoaa
