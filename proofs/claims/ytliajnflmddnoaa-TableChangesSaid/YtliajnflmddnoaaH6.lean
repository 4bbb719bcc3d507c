/- The walk of TableChanges. -/
import Derived.Test.YtliajnflmddnoaaQ12
import Derived.Test.YtliajnflmddnoaaQ13
import Derived.Test.YtliajnflmddnoaaQ15
import Derived.Test.YtliajnflmddnoaaH4
namespace Go.Proofs.Ytliajnflmddnoaa
open Go.RowKit

theorem insV_fit {L : Ld} {row : List Int} (h1 : L.starts.length ≤ 900) (h2 : L.cells.length ≤ 40000) (h3 : row.length ≤ 1000) : Fit (insV L row) := by
  unfold insV
  split
  · refine ⟨?_, ?_⟩
    · show (L.starts ++ [_]).length ≤ _
      rw [List.length_append]
      simp
      omega
    · show (putL L.cells row (L.starts.length : Nat)).length ≤ _
      rw [putL_length]
      have := (start_spec L.cells row).1
      omega
  · exact ⟨Nat.zero_le _, Nat.zero_le _⟩
theorem takV_fit {L : Ld} {r : Int} (h : Fit L) : Fit (takV L r) := by
  unfold takV
  split
  · refine ⟨?_, ?_⟩
    · show (L.starts.set _ _).length ≤ _
      rw [List.length_set]
      exact h.s
    · show (L.cells.map _).length ≤ _
      rw [List.length_map]
      exact h.c
  · exact ⟨Nat.zero_le _, Nat.zero_le _⟩

set_option maxRecDepth 100000 in
set_option maxHeartbeats 8000000 in
theorem changes_ok (L : Ld) (sa : Option Addr) (sc : Nat) (ca : Option Addr) (cc : Nat) (row : List Int) (ar : Option Addr) (cr : Nat) (at' : Int) (w : World) (hm : LdM w L sa sc ca cc) (hr : RdI w ar row) (hs : lightB L = true) (h80 : row.length ≤ 80) :
    Calls Try.prog 5 #[vL L sa sc ca cc, .slice ar row.length cr, .int .i64 at'] w (RetB (.bool true) w) := by
  have HLD := hid hm; clear hm
  have HR := hid hr; clear hr
  obtain ⟨hf, h1, h2, h3⟩ := light_fit hs
  have HLT := hid (fun (w : World) => (by have := light_any L sa sc ca cc w (by omega) (by omega); rw [hs] at this; exact this : Calls Try.prog 23 #[vL L sa sc ca cc] w (RetB (.bool true) w)))
  have H24 := hid (fun (w : World) (h : LdM w L sa sc ca cc) (h' : RdI w ar row) => Insert_any L hf row ar cr sa sc ca cc w h h' (by omega))
  have H25 := hid (fun (w : World) (h : LdM w L sa sc ca cc) (h' : RdI w ar row) => rInsert_any L hf row ar cr sa sc ca cc w h h' (by omega))
  have H26 := hid (fun (w : World) (h : LdM w L sa sc ca cc) => Take_any L hf at' sa sc ca cc w h)
  have H27 := hid (fun (w : World) (h : LdM w L sa sc ca cc) => rTake_any L hf at' sa sc ca cc w h)
  have fI : Fit (insV L row) := insV_fit (by omega) (by omega) (by omega)
  have fT : Fit (takV L at') := takV_fit hf
  have HS := hid (fun (I : Ld) (h : Fit I) => same_laid I h)
  have FI := hid fI
  have FT := hid fT
  generalize insV L row = I at *
  generalize insAt L row = iat at *
  generalize insE L row = ie at *
  generalize takV L at' = T at *
  generalize hasE L at' = te at *
  have HB := hid (bnew w (.cells #[.int .i64 L.cols, .slice sa L.starts.length sc, .slice ca L.cells.length cc] 44))
  have HX := hid (heapn w (.cells #[.int .i64 L.cols, .slice sa L.starts.length sc, .slice ca L.cells.length cc] 44) _ rfl)
  obtain ⟨k0, k1, k2, _, _, _⟩ := box3 HX.out
  obtain ⟨g3, hg3⟩ : ∃ g, g = w.heap.size := ⟨_, rfl⟩
  have n80 : ¬ (80 : Int) < (row.length : Int) := by omega
  have d80 : decide ((80 : Int) < (row.length : Int)) = false := decide_eq_false n80
  clear hs hf h1 h2 h3 fI fT
  go_enter Try.func5, Try.ntmps5
  go_wp2_with fail
  generalize w.alloc (.cells #[.int .i64 L.cols, .slice sa L.starts.length sc, .slice ca L.cells.length cc] 44) = w1 at *
  rw [← hg3] at k0 k1 k2 HX
  rw [← hg3]
  clear hg3
  have HLD := hid (HLD.out.below HB.out)
  have HR := hid (HR.out.below HB.out)
  go_upto_region 7 with (first
    | (go_at_call 23; (with_reducible refine (HLT.out _).mono ?_); rintro e w2 ⟨rfl, hb⟩; have HB := hid (HB.out.step hb); have HX := hid (keepBox hb HX.out); have HLD := hid (HLD.out.below hb); have HR := hid (HR.out.below hb); obtain ⟨k0, k1, k2, _, _, _⟩ := box3 HX.out; clear hb)
    | (go_at_call 24; (with_reducible refine (H24.out _ HLD.out HR.out).mono ?_); rintro e w3 ⟨hb, sa1, sc1, ca1, cc1, rfl, hld⟩; have hb2 := hb.step (bnew w3 (.cells #[.int .i64 I.cols, .slice sa1 I.starts.length sc1, .slice ca1 I.cells.length cc1] 44)); have HB := hid (HB.out.step hb2); have HX := hid (keepBox hb2 HX.out); have HLD := hid (HLD.out.below hb2); have HR := hid (HR.out.below hb2); obtain ⟨k0, k1, k2, _, _, _⟩ := box3 HX.out; have X1 := hid (heapn w3 (.cells #[.int .i64 I.cols, .slice sa1 I.starts.length sc1, .slice ca1 I.cells.length cc1] 44) _ rfl); have M1 := hid (hld.below (bnew w3 (.cells #[.int .i64 I.cols, .slice sa1 I.starts.length sc1, .slice ca1 I.cells.length cc1] 44))); clear hb hb2 hld)
    | (go_at_call 25; (with_reducible refine (H25.out _ HLD.out HR.out).mono ?_); rintro e w4 ⟨hb, sa2, sc2, ca2, cc2, rfl, hld⟩; have hb2 := hb.step (bnew w4 (.cells #[.int .i64 I.cols, .slice sa2 I.starts.length sc2, .slice ca2 I.cells.length cc2, .int .i64 iat, .int .i64 ie] 48)); have HB := hid (HB.out.step hb2); have HX := hid (keepBox hb2 HX.out); have HLD := hid (HLD.out.below hb2); have HR := hid (HR.out.below hb2); have X1 := hid (keepBox hb2 X1.out); have M1 := hid (M1.out.below hb2); obtain ⟨k0, k1, k2, _, _, _⟩ := box3 HX.out; have X2 := hid (heapn w4 (.cells #[.int .i64 I.cols, .slice sa2 I.starts.length sc2, .slice ca2 I.cells.length cc2, .int .i64 iat, .int .i64 ie] 48) _ rfl); have M2 := hid (hld.below (bnew w4 (.cells #[.int .i64 I.cols, .slice sa2 I.starts.length sc2, .slice ca2 I.cells.length cc2, .int .i64 iat, .int .i64 ie] 48))); clear hb hb2 hld)
    | (go_at_call 26; (with_reducible refine (H26.out _ HLD.out).mono ?_); rintro e w5 ⟨hb, sa3, sc3, ca3, cc3, rfl, hld⟩; have hb2 := hb.step (bnew w5 (.cells #[.int .i64 T.cols, .slice sa3 T.starts.length sc3, .slice ca3 T.cells.length cc3] 44)); have HB := hid (HB.out.step hb2); have HX := hid (keepBox hb2 HX.out); have HLD := hid (HLD.out.below hb2); have HR := hid (HR.out.below hb2); have X1 := hid (keepBox hb2 X1.out); have M1 := hid (M1.out.below hb2); have X2 := hid (keepBox hb2 X2.out); have M2 := hid (M2.out.below hb2); obtain ⟨k0, k1, k2, _, _, _⟩ := box3 HX.out; have X3 := hid (heapn w5 (.cells #[.int .i64 T.cols, .slice sa3 T.starts.length sc3, .slice ca3 T.cells.length cc3] 44) _ rfl); have M3 := hid (hld.below (bnew w5 (.cells #[.int .i64 T.cols, .slice sa3 T.starts.length sc3, .slice ca3 T.cells.length cc3] 44))); clear hb hb2 hld)
    | (go_at_call 27; (with_reducible refine (H27.out _ HLD.out).mono ?_); rintro e w6 ⟨hb, sa4, sc4, ca4, cc4, rfl, hld⟩; have hb2 := hb.step (bnew w6 (.cells #[.int .i64 T.cols, .slice sa4 T.starts.length sc4, .slice ca4 T.cells.length cc4, .int .i64 0, .int .i64 te] 48)); have HB := hid (HB.out.step hb2); have HX := hid (keepBox hb2 HX.out); have HLD := hid (HLD.out.below hb2); have HR := hid (HR.out.below hb2); have X1 := hid (keepBox hb2 X1.out); have M1 := hid (M1.out.below hb2); have X2 := hid (keepBox hb2 X2.out); have M2 := hid (M2.out.below hb2); have X3 := hid (keepBox hb2 X3.out); have M3 := hid (M3.out.below hb2); obtain ⟨k0, k1, k2, _, _, _⟩ := box3 HX.out; have X4 := hid (heapn w6 (.cells #[.int .i64 T.cols, .slice sa4 T.starts.length sc4, .slice ca4 T.cells.length cc4, .int .i64 0, .int .i64 te] 48) _ rfl); have M4 := hid (hld.below (bnew w6 (.cells #[.int .i64 T.cols, .slice sa4 T.starts.length sc4, .slice ca4 T.cells.length cc4, .int .i64 0, .int .i64 te] 48))); clear hb hb2 hld))
  clear k0 k1 k2
  go_wp2_with (first
    | (go_at_call 14; (with_reducible refine (sanity_any _).mono ?_); rintro e w7 ⟨rfl, hb⟩; have HB := hid (HB.out.step hb); have M1 := hid (M1.out.below hb); have M2 := hid (M2.out.below hb); have M3 := hid (M3.out.below hb); have M4 := hid (M4.out.below hb); have X1 := hid (keepBox hb X1.out); have X2 := hid (keepBox hb X2.out); have X3 := hid (keepBox hb X3.out); have X4 := hid (keepBox hb X4.out); obtain ⟨p0, p1, p2, _, _, _⟩ := box3 X1.out; obtain ⟨p3, p4, p5, p6, p7, _, _, _, _, _⟩ := box5 X2.out; obtain ⟨q0, q1, q2, _, _, _⟩ := box3 X3.out; obtain ⟨q3, q4, q5, q6, q7, _, _, _, _, _⟩ := box5 X4.out; clear hb)
    | (go_at_call 22; (with_reducible refine (HS.out I FI.out sa1 sc1 ca1 cc1 sa2 sc2 ca2 cc2 _ M1.out M2.out).mono ?_); rintro e w8 ⟨rfl, hb⟩; have HB := hid (HB.out.step hb); have M1 := hid (M1.out.below hb); have M2 := hid (M2.out.below hb); have M3 := hid (M3.out.below hb); have M4 := hid (M4.out.below hb); have X1 := hid (keepBox hb X1.out); have X2 := hid (keepBox hb X2.out); have X3 := hid (keepBox hb X3.out); have X4 := hid (keepBox hb X4.out); obtain ⟨p0, p1, p2, _, _, _⟩ := box3 X1.out; obtain ⟨p3, p4, p5, p6, p7, _, _, _, _, _⟩ := box5 X2.out; obtain ⟨q0, q1, q2, _, _, _⟩ := box3 X3.out; obtain ⟨q3, q4, q5, q6, q7, _, _, _, _, _⟩ := box5 X4.out; clear hb)
    | (go_at_call 22; (with_reducible refine (HS.out T FT.out sa3 sc3 ca3 cc3 sa4 sc4 ca4 cc4 _ M3.out M4.out).mono ?_); rintro e w9 ⟨rfl, hb⟩; have HB := hid (HB.out.step hb); have M1 := hid (M1.out.below hb); have M2 := hid (M2.out.below hb); have M3 := hid (M3.out.below hb); have M4 := hid (M4.out.below hb); have X1 := hid (keepBox hb X1.out); have X2 := hid (keepBox hb X2.out); have X3 := hid (keepBox hb X3.out); have X4 := hid (keepBox hb X4.out); obtain ⟨p0, p1, p2, _, _, _⟩ := box3 X1.out; obtain ⟨p3, p4, p5, p6, p7, _, _, _, _, _⟩ := box5 X2.out; obtain ⟨q0, q1, q2, _, _, _⟩ := box3 X3.out; obtain ⟨q3, q4, q5, q6, q7, _, _, _, _, _⟩ := box5 X4.out; clear hb))
  go_ret
  exact ⟨rfl, HB.out⟩

set_option maxRecDepth 100000 in
set_option maxHeartbeats 2000000 in
theorem changes_any (L : Ld) (sa : Option Addr) (sc : Nat) (ca : Option Addr) (cc : Nat) (row : List Int) (ar : Option Addr) (cr : Nat) (at' : Int) (w : World) (hm : LdM w L sa sc ca cc) (hl1 : L.starts.length ≤ 9223372036854775807) (hl2 : L.cells.length ≤ 9223372036854775807) (hr : RdI w ar row) (hrl : row.length ≤ 9223372036854775807) :
    Calls Try.prog 5 #[vL L sa sc ca cc, .slice ar row.length cr, .int .i64 at'] w (RetB (.bool true) w) := by
  have HB := hid (bnew w (.cells #[.int .i64 L.cols, .slice sa L.starts.length sc, .slice ca L.cells.length cc] 44))
  obtain ⟨k0, k1, k2, _, _, _⟩ := box3 (heapn w (.cells #[.int .i64 L.cols, .slice sa L.starts.length sc, .slice ca L.cells.length cc] 44) _ rfl)
  cases hs : lightB L with
  | true =>
    by_cases h80 : row.length ≤ 80
    · exact changes_ok L sa sc ca cc row ar cr at' w hm hr hs h80
    · have HLT := hid (fun (w : World) => (by have := light_any L sa sc ca cc w hl1 hl2; rw [hs] at this; exact this : Calls Try.prog 23 #[vL L sa sc ca cc] w (RetB (.bool true) w)))
      have n80 : (80 : Int) < (row.length : Int) := by omega
      have d80 : decide ((80 : Int) < (row.length : Int)) = true := decide_eq_true n80
      clear hs hm hr
      go_enter Try.func5, Try.ntmps5
      go_wp2_with (first
        | (go_at_call 23; (with_reducible refine (HLT.out _).mono ?_); rintro e w2 ⟨rfl, hb⟩; have HB := hid (HB.out.step hb); clear hb)
        | (go_at_call 14; (with_reducible refine (sanity_any _).mono ?_); rintro e w3 ⟨rfl, hb⟩; have HB := hid (HB.out.step hb); clear hb))
      go_ret
      exact ⟨rfl, HB.out⟩
  | false =>
    have HLT := hid (fun (w : World) => (by have := light_any L sa sc ca cc w hl1 hl2; rw [hs] at this; exact this : Calls Try.prog 23 #[vL L sa sc ca cc] w (RetB (.bool false) w)))
    clear hs hm hr
    go_enter Try.func5, Try.ntmps5
    go_wp2_with (first
      | (go_at_call 23; (with_reducible refine (HLT.out _).mono ?_); rintro e w2 ⟨rfl, hb⟩; have HB := hid (HB.out.step hb); clear hb)
      | (go_at_call 14; (with_reducible refine (sanity_any _).mono ?_); rintro e w3 ⟨rfl, hb⟩; have HB := hid (HB.out.step hb); clear hb))
    go_ret
    exact ⟨rfl, HB.out⟩
end Go.Proofs.Ytliajnflmddnoaa
