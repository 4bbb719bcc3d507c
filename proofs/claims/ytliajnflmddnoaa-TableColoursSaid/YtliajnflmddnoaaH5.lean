/- The walk of TableColours. -/
import Derived.Test.YtliajnflmddnoaaQ4
import Derived.Test.YtliajnflmddnoaaQ6
import Derived.Test.YtliajnflmddnoaaH1
namespace Go.Proofs.Ytliajnflmddnoaa
open Go.RowKit

theorem colV_len (m : List (List Int)) : (colV m).length ≤ 1000000 := by
  unfold colV
  split
  · rename_i h
    rw [asI_length, colL_length]
    have := (chkM_ok h).cols
    omega
  · simp
theorem cliqueV_len (m : List (List Int)) : (cliqueV m).length ≤ 1000000 := by
  unfold cliqueV
  split
  · rename_i h
    rw [List.length_map]
    unfold cliqueL
    have hm := chkM_ok h
    have h1 : (fullL (m.getD (bestR m) [])).length ≤ (m.getD (bestR m) []).length := manyN_le _
    have h2 := (hm.row (best_lt hm)).1
    have := hm.cols
    omega
  · simp

set_option maxRecDepth 100000 in
set_option maxHeartbeats 8000000 in
theorem colours_ok (m : List (List Int)) (a : Option Addr) (cap : Nat) (x y : Int) (l : List Int) (al : Option Addr) (cl : Nat) (w : World) (hl : RdM w a m) (hc : RdI w al l) (hs : smallB m = true) (h420 : l.length ≤ 420) :
    Calls Try.prog 11 #[.slice a m.length cap, .int .i64 x, .int .i64 y, .slice al l.length cl] w (RetB (.bool true) w) := by
  have HL := hid hl; clear hl
  have HC := hid hc; clear hc
  obtain ⟨q1, q2⟩ := small_len hs
  have q3 : ∀ r, r ∈ m → r.length ≤ 1000000 := fun r hr => by have := q2 r hr; omega
  have h12 : chkM m = 0 → m.length ≤ 19 := fun h => by have := (small_in hs (chkM_ok h)).1; omega
  have HSM := hid (fun (w : World) (h : RdM w a m) => (by have := small_any m a cap w h (by omega) (fun r hr => by have := q2 r hr; omega); rw [hs] at this; exact this : Calls Try.prog 13 #[.slice a m.length cap] w (RetS (.bool true) w)))
  have H39 := hid (fun (w : World) (h : RdM w a m) => Clash_any m a cap x y w h (by omega) q3)
  have H40 := hid (fun (w : World) (h : RdM w a m) => rClash_any m a cap x y w h (by omega) q3)
  have H41 := hid (fun (w : World) (h : RdM w a m) => Colour_any m a cap w h (by omega) q3)
  have H42 := hid (fun (w : World) (h : RdM w a m) => rColour_any m a cap w h (by omega) q3)
  have H43 := hid (fun (w : World) (h : RdM w a m) => Clique_any m a cap w h h12 (by omega) q3)
  have H44 := hid (fun (w : World) (h : RdM w a m) => rClique_any m a cap w h (by omega) q3)
  have H28 := hid (fun (w : World) (h : RdM w a m) => check_any m a cap w h (by omega) q3)
  have H45 := hid (fun (w : World) (h : RdM w a m) => rcheck_any m a cap w h (by omega) q3)
  have H47 := hid (fun (w : World) (h : RdM w a m) (h2 : RdI w al l) => CheckColour_any m a cap l al cl w h (by omega) q3 h2 (by omega))
  have H48 := hid (fun (w : World) (h : RdM w a m) (h2 : RdI w al l) => rCheckColour_any m a cap l al cl w h (by omega) q3 h2 (by omega))
  have HS1 := hid (fun (x y : Option Addr) (cx cy : Nat) (w : World) (h1 : RdI w x (colV m)) (h2 : RdI w y (colV m)) => (by
    have := same_ints (colV m) (colV m) x y cx cy w h1 h2 (colV_len m) (colV_len m)
    rw [decide_eq_true rfl] at this
    exact this : Calls Try.prog 46 #[.slice x (colV m).length cx, .slice y (colV m).length cy] w (RetB (.bool true) w)))
  have HS2 := hid (fun (x y : Option Addr) (cx cy : Nat) (w : World) (h1 : RdI w x (cliqueV m)) (h2 : RdI w y (cliqueV m)) => (by
    have := same_ints (cliqueV m) (cliqueV m) x y cx cy w h1 h2 (cliqueV_len m) (cliqueV_len m)
    rw [decide_eq_true rfl] at this
    exact this : Calls Try.prog 46 #[.slice x (cliqueV m).length cx, .slice y (cliqueV m).length cy] w (RetB (.bool true) w)))
  generalize clashN m x y = nv at *
  generalize clashIs m x y = iv at *
  generalize clashE m x y = ev at *
  generalize colN m = cnv at *
  generalize chkC m l = kv at *
  generalize chkM m = ck at *
  have n420 : ¬ (420 : Int) < (l.length : Int) := by omega
  have d420 : decide ((420 : Int) < (l.length : Int)) = false := decide_eq_false n420
  have HB := hid (Below.refl w.heap.size w)
  clear hs q1 q2 q3 h12
  go_enter Try.func11, Try.ntmps11
  go_upto_region 9 with (first
    | (go_at_call 13; (with_reducible refine (HSM.out _ HL.out).mono ?_); rintro e w1 ⟨rfl, rfl⟩)
    | (go_at_call 39; (with_reducible refine (H39.out _ (HL.out.below HB.out)).mono ?_); rintro e w2 ⟨rfl, hb⟩; have HB := hid (HB.out.step hb); clear hb)
    | (go_at_call 40; (with_reducible refine (H40.out _ (HL.out.below HB.out)).mono ?_); rintro e w3 ⟨rfl, hb⟩; have HB := hid ((HB.out.step hb).step (bnew w3 (.cells #[.int .i64 nv, .bool iv, .int .i64 ev] 77))); have X1 := hid (heapn w3 (.cells #[.int .i64 nv, .bool iv, .int .i64 ev] 77) _ rfl); clear hb)
    | (go_at_call 41; (with_reducible refine (H41.out _ (HL.out.below HB.out)).mono ?_); rintro e w4 ⟨hb, v, rfl, hown⟩; obtain ⟨a1, c1, rfl, hrd⟩ := hown.rd; have M1 := hid hrd; have HB := hid (HB.out.step hb); have X1 := hid (keepBox hb X1.out); clear hb hown hrd)
    | (go_at_call 42; (with_reducible refine (H42.out _ (HL.out.below HB.out)).mono ?_); rintro e w5 ⟨hb, a2, c2, rfl, hrd⟩; have hb2 := hb.step (bnew w5 (.cells #[.slice a2 (colV m).length c2, .int .i64 cnv, .int .i64 ck] 82)); have HB := hid (HB.out.step hb2); have M1 := hid (M1.out.below hb2); have X1 := hid (keepBox hb2 X1.out); have X2 := hid (heapn w5 (.cells #[.slice a2 (colV m).length c2, .int .i64 cnv, .int .i64 ck] 82) _ rfl); have M2 := hid (hrd.below (bnew w5 (.cells #[.slice a2 (colV m).length c2, .int .i64 cnv, .int .i64 ck] 82))); clear hb hb2 hrd)
    | (go_at_call 43; (with_reducible refine (H43.out _ (HL.out.below HB.out)).mono ?_); rintro e w6 ⟨hb, a3, c3, rfl, hrd⟩; have HB := hid (HB.out.step hb); have M1 := hid (M1.out.below hb); have M2 := hid (M2.out.below hb); have X1 := hid (keepBox hb X1.out); have X2 := hid (keepBox hb X2.out); have M3 := hid hrd; clear hb hrd)
    | (go_at_call 44; (with_reducible refine (H44.out _ (HL.out.below HB.out)).mono ?_); rintro e w7 ⟨hb, a4, c4, rfl, hrd⟩; have hb2 := hb.step (bnew w7 (.cells #[.slice a4 (cliqueV m).length c4, .int .i64 ck] 87)); have HB := hid (HB.out.step hb2); have M1 := hid (M1.out.below hb2); have M2 := hid (M2.out.below hb2); have M3 := hid (M3.out.below hb2); have X1 := hid (keepBox hb2 X1.out); have X2 := hid (keepBox hb2 X2.out); have X3 := hid (heapn w7 (.cells #[.slice a4 (cliqueV m).length c4, .int .i64 ck] 87) _ rfl); have M4 := hid (hrd.below (bnew w7 (.cells #[.slice a4 (cliqueV m).length c4, .int .i64 ck] 87))); clear hb hb2 hrd))
  obtain ⟨p0, p1, p2, _, _, _⟩ := box3 X1.out; obtain ⟨p3, p4, p5, _, _, _⟩ := box3 X2.out; obtain ⟨p6, p7, _, _⟩ := box2 X3.out
  go_wp2_with (first
    | (go_at_call 28; (with_reducible refine (H28.out _ (HL.out.below HB.out)).mono ?_); rintro e w8 ⟨rfl, rfl⟩)
    | (go_at_call 45; (with_reducible refine (H45.out _ (HL.out.below HB.out)).mono ?_); rintro e w9 ⟨rfl, hb⟩; have HB := hid (HB.out.step hb); have M1 := hid (M1.out.below hb); have M2 := hid (M2.out.below hb); have M3 := hid (M3.out.below hb); have M4 := hid (M4.out.below hb); have X1 := hid (keepBox hb X1.out); have X2 := hid (keepBox hb X2.out); have X3 := hid (keepBox hb X3.out); obtain ⟨p0, p1, p2, _, _, _⟩ := box3 X1.out; obtain ⟨p3, p4, p5, _, _, _⟩ := box3 X2.out; obtain ⟨p6, p7, _, _⟩ := box2 X3.out; clear hb)
    | (go_at_call 46; (with_reducible refine (HS1.out a1 a2 c1 c2 _ M1.out M2.out).mono ?_); rintro e w10 ⟨rfl, hb⟩; have HB := hid (HB.out.step hb); have M1 := hid (M1.out.below hb); have M2 := hid (M2.out.below hb); have M3 := hid (M3.out.below hb); have M4 := hid (M4.out.below hb); have X1 := hid (keepBox hb X1.out); have X2 := hid (keepBox hb X2.out); have X3 := hid (keepBox hb X3.out); obtain ⟨p0, p1, p2, _, _, _⟩ := box3 X1.out; obtain ⟨p3, p4, p5, _, _, _⟩ := box3 X2.out; obtain ⟨p6, p7, _, _⟩ := box2 X3.out; clear hb)
    | (go_at_call 46; (with_reducible refine (HS2.out a3 a4 c3 c4 _ M3.out M4.out).mono ?_); rintro e w11 ⟨rfl, hb⟩; have HB := hid (HB.out.step hb); have M1 := hid (M1.out.below hb); have M2 := hid (M2.out.below hb); have M3 := hid (M3.out.below hb); have M4 := hid (M4.out.below hb); have X1 := hid (keepBox hb X1.out); have X2 := hid (keepBox hb X2.out); have X3 := hid (keepBox hb X3.out); obtain ⟨p0, p1, p2, _, _, _⟩ := box3 X1.out; obtain ⟨p3, p4, p5, _, _, _⟩ := box3 X2.out; obtain ⟨p6, p7, _, _⟩ := box2 X3.out; clear hb)
    | (go_at_call 14; (with_reducible refine (sanity_any _).mono ?_); rintro e w12 ⟨rfl, hb⟩; have HB := hid (HB.out.step hb); have M1 := hid (M1.out.below hb); have M2 := hid (M2.out.below hb); have M3 := hid (M3.out.below hb); have M4 := hid (M4.out.below hb); have X1 := hid (keepBox hb X1.out); have X2 := hid (keepBox hb X2.out); have X3 := hid (keepBox hb X3.out); obtain ⟨p0, p1, p2, _, _, _⟩ := box3 X1.out; obtain ⟨p3, p4, p5, _, _, _⟩ := box3 X2.out; obtain ⟨p6, p7, _, _⟩ := box2 X3.out; clear hb)
    | (go_at_call 47; (with_reducible refine (H47.out _ (HL.out.below HB.out) (HC.out.below HB.out)).mono ?_); rintro e w13 ⟨rfl, hb⟩; have HB := hid (HB.out.step hb); have M1 := hid (M1.out.below hb); have M2 := hid (M2.out.below hb); have M3 := hid (M3.out.below hb); have M4 := hid (M4.out.below hb); have X1 := hid (keepBox hb X1.out); have X2 := hid (keepBox hb X2.out); have X3 := hid (keepBox hb X3.out); obtain ⟨p0, p1, p2, _, _, _⟩ := box3 X1.out; obtain ⟨p3, p4, p5, _, _, _⟩ := box3 X2.out; obtain ⟨p6, p7, _, _⟩ := box2 X3.out; clear hb)
    | (go_at_call 48; (with_reducible refine (H48.out _ (HL.out.below HB.out) (HC.out.below HB.out)).mono ?_); rintro e w14 ⟨rfl, hb⟩; have HB := hid (HB.out.step hb); have M1 := hid (M1.out.below hb); have M2 := hid (M2.out.below hb); have M3 := hid (M3.out.below hb); have M4 := hid (M4.out.below hb); have X1 := hid (keepBox hb X1.out); have X2 := hid (keepBox hb X2.out); have X3 := hid (keepBox hb X3.out); obtain ⟨p0, p1, p2, _, _, _⟩ := box3 X1.out; obtain ⟨p3, p4, p5, _, _, _⟩ := box3 X2.out; obtain ⟨p6, p7, _, _⟩ := box2 X3.out; clear hb))
  go_ret
  exact ⟨rfl, HB.out⟩

set_option maxRecDepth 100000 in
set_option maxHeartbeats 2000000 in
theorem colours_any (m : List (List Int)) (a : Option Addr) (cap : Nat) (x y : Int) (l : List Int) (al : Option Addr) (cl : Nat) (w : World) (hl : RdM w a m) (hlen : m.length ≤ 9223372036854775807) (hrl : ∀ r, r ∈ m → r.length ≤ 9223372036854775807) (hc : RdI w al l) (hcl : l.length ≤ 9223372036854775807) :
    Calls Try.prog 11 #[.slice a m.length cap, .int .i64 x, .int .i64 y, .slice al l.length cl] w (RetB (.bool true) w) := by
  have HSM := hid (small_any m a cap w hl hlen hrl)
  cases hs : smallB m with
  | false =>
    rw [hs] at HSM
    clear hl hrl hs hc
    go_enter Try.func11, Try.ntmps11
    go_wp2_with (first
      | (go_at_call 13; (with_reducible refine HSM.out.mono ?_); rintro e w1 ⟨rfl, rfl⟩)
      | (go_at_call 14; (with_reducible refine (sanity_any _).mono ?_); rintro e w1 ⟨rfl, hb⟩; have HB := hid hb; clear hb))
    go_ret
    exact ⟨rfl, HB.out⟩
  | true =>
    by_cases h420 : l.length ≤ 420
    · exact colours_ok m a cap x y l al cl w hl hc hs h420
    · rw [hs] at HSM
      have n420 : (420 : Int) < (l.length : Int) := by omega
      have d420 : decide ((420 : Int) < (l.length : Int)) = true := decide_eq_true n420
      clear hl hrl hs hc
      go_enter Try.func11, Try.ntmps11
      go_wp2_with (first
        | (go_at_call 13; (with_reducible refine HSM.out.mono ?_); rintro e w1 ⟨rfl, rfl⟩)
        | (go_at_call 14; (with_reducible refine (sanity_any _).mono ?_); rintro e w1 ⟨rfl, hb⟩; have HB := hid hb; clear hb))
      go_ret
      exact ⟨rfl, HB.out⟩
end Go.Proofs.Ytliajnflmddnoaa
