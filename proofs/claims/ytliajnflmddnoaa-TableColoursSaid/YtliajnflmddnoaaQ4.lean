/- The contract of the reference's CheckColour. -/
import Derived.Test.YtliajnflmddnoaaQ3
namespace Go.Proofs.Ytliajnflmddnoaa
open Go.RowKit

theorem in_400 (x : Int) : inB x 0 400 = (decide (0 ≤ x) && decide (x ≤ 400)) := by
  unfold inB
  rw [Bool.eq_iff_iff]
  simp

set_option maxRecDepth 100000 in
set_option maxHeartbeats 2000000 in
theorem rCheckColour_any (m : List (List Int)) (a : Option Addr) (cap : Nat) (l : List Int) (al : Option Addr) (cl' : Nat) (w : World) (hl : RdM w a m) (hlen : m.length ≤ 1000000) (hrl : ∀ r, r ∈ m → r.length ≤ 1000000) (hc : RdI w al l) (hcl : l.length ≤ 1000000) :
    Calls Try.prog 48 #[.slice a m.length cap, .slice al l.length cl'] w (RetB (.int .i64 (chkC m l)) w) := by
  have HL := hid hl; clear hl
  have HR := hid hrl; clear hrl
  have HC := hid hc; clear hc
  by_cases hE : chkM m = 0
  · have hm := chkM_ok hE
    have HM := hid hm
    have HE := hid hE
    obtain ⟨b0, o0, rfl, hlt0, ai0, ci0, hc0⟩ := HL.out.head hm.some'
    have n0 : (0 : Int) < (m.length : Int) := by have := hm.some'; omega
    have HC0 := hid hc0
    clear hE hm hc0
    by_cases hln : l.length = colsN m
    · have HV : Hid (chkC m l = if colOkU m l l.length = true then 0 else 11) := hid (by unfold chkC; rw [if_pos HE.out, if_pos hln])
      have hne : ((l.length : Int) != (colsN m : Int)) = false := by rw [hln]; simp
      have HLN := hid hln
      clear hln
      go_enter Try.func48, Try.ntmps48
      go_wp2_with (go_at_call 45; (with_reducible refine (rcheck_any m _ cap _ HL.out hlen HR.out).mono ?_); rw [HE.out]; rintro e w1 ⟨rfl, hb⟩; have HB1 := hid hb; have hc0 := cell_later hb HC0.out; clear hb)
      go_loopg [6] l.length (fun gh s6 wr => ∃ b : Nat, b ≤ l.length ∧ gh = l.length - b ∧ s6 = .int .i64 b ∧ Hid (colOkU m l b = true ∧ Below w.heap.size w wr))
      case atStart => exact ⟨0, Nat.zero_le _, rfl, rfl, hid ⟨rfl, HB1.out⟩⟩
      case round =>
        obtain ⟨b, hb, rfl, rfl, HB⟩ := hrel
        by_cases hlt : b < l.length
        · have hlt' : (b : Int) < (l.length : Int) := by omega
          obtain ⟨wo, rfl⟩ : ∃ wo : World, wo = wr := ⟨_, rfl⟩
          obtain ⟨bl, ol, rfl, hltl, hcb⟩ := HC.out.at hlt
          obtain ⟨x, hx⟩ : ∃ x, x = l.getD b (-1) := ⟨_, rfl⟩
          rw [← hx] at hcb
          have HX := hid hx
          clear hx
          have HCB := hid hcb
          have hcb' := cell_later HB.out.2 hcb
          have HIN := hid (in_400 x)
          clear hcb
          by_cases hr : 0 ≤ x ∧ x ≤ 400
          · obtain ⟨hr1, hr2⟩ := hr
            have HI : Hid (inB x 0 400 = true) := hid (by rw [HIN.out, decide_eq_true hr1, decide_eq_true hr2]; rfl)
            have HR1 := hid (And.intro hr1 hr2)
            clear hr1 hr2
            go_wp2_with (go_at_call 53; (with_reducible refine (in_any x _ _ _).mono ?_); rw [HI.out]; rintro e w' ⟨rfl, rfl⟩)
            go_loopg [8] b (fun gh s8 wr => ∃ d : Nat, d ≤ b ∧ gh = b - d ∧ s8 = .int .i64 d ∧ Hid (apartU m l b d = true ∧ Below wo.heap.size wo wr))
            case atStart => exact ⟨0, Nat.zero_le _, rfl, rfl, hid ⟨rfl, Below.refl _ _⟩⟩
            case round =>
              obtain ⟨d, hd, rfl, rfl, HD⟩ := hrel
              by_cases hdb : d < b
              · have hdb' : (d : Int) < (b : Int) := by omega
                have hdl : (d : Int) < (l.length : Int) := by omega
                have hcx := cell_later HD.out.2 hcb'
                obtain ⟨bl', ol', e, hltl', hcd⟩ := (HC.out.below (HB.out.2.step HD.out.2)).at (i := d) (by omega)
                cases e
                obtain ⟨y, hy⟩ : ∃ y, y = l.getD d (-1) := ⟨_, rfl⟩
                rw [← hy] at hcd
                have HY := hid hy
                clear hy
                by_cases hxy : y = x
                · have hyx : (y == x) = true := by rw [beq_iff_eq]; exact hxy
                  have HYX := hid hyx
                  clear hxy
                  have HCL := hid (clashM_clB m d b)
                  have HCC := hid (fun w' (hw : RdM w' (some ⟨b0, o0, none⟩) m) => rclash_any m _ cap d b w' HM.out hw (by rw [← HLN.out]; omega) (by rw [← HLN.out]; exact hlt))
                  generalize clashM m d b = z at HCL HCC
                  by_cases hz : 0 ≤ z
                  · have hclb : Hid (clB m d b = true) := hid (by rw [← HCL.out]; exact decide_eq_true hz)
                    have dz : decide (0 ≤ z) = true := decide_eq_true hz
                    go_upto_region 15 with fail
                    go_quiet ((go_at_call 78; with_reducible exact Calls.quiet_of_same (retS (HCC.out _ (HL.out.below (bdrewN (HB.out.2.step HD.out.2) _))))))
                    go_wp2
                    go_ret
                    rw [HV.out, if_neg (by
                      unfold colOkU
                      rw [all_false hlt (by
                        unfold colOkAt apartU
                        rw [all_false hdb (by rw [← HX.out, ← HY.out, HYX.out, hclb.out]; rfl), Bool.and_false])]
                      simp)]
                    exact ⟨rfl, HB.out.2.step (bdrewN HD.out.2 _)⟩
                  · have hclb : Hid (clB m d b = false) := hid (by rw [← HCL.out]; exact decide_eq_false hz)
                    have dz : decide (0 ≤ z) = false := decide_eq_false hz
                    go_upto_region 15 with fail
                    go_quiet ((go_at_call 78; with_reducible exact Calls.quiet_of_same (retS (HCC.out _ (HL.out.below (bdrewN (HB.out.2.step HD.out.2) _))))))
                    go_wp2
                    go_roundg (b - (d + 1))
                    case rel =>
                      refine ⟨d + 1, by omega, rfl, by go_num, hid ⟨?_, bdrewN HD.out.2 _⟩⟩
                      have h1 := HD.out.1
                      unfold apartU at h1 ⊢
                      rw [all_succ, h1, hclb.out, Bool.and_false]
                      rfl
                    case measure => omega
                · have hyx : (y == x) = false := by rw [beq_eq_false_iff_ne]; exact hxy
                  have HYX := hid hyx
                  clear hxy
                  go_upto_region 15 with fail
                  go_quiet (fail)
                  go_wp2
                  go_roundg (b - (d + 1))
                  case rel =>
                    refine ⟨d + 1, by omega, rfl, by go_num, hid ⟨?_, bdrewN HD.out.2 _⟩⟩
                    have h1 := HD.out.1
                    unfold apartU at h1 ⊢
                    rw [all_succ, h1, ← HX.out, ← HY.out, HYX.out]
                    rfl
                  case measure => omega
              · have hdb' : d = b := by omega
                subst hdb'
                go_wp2
                go_roundg (l.length - (d + 1))
                case rel =>
                  refine ⟨d + 1, by omega, rfl, by go_num, hid ⟨?_, HB.out.2.step HD.out.2⟩⟩
                  have h1 := HB.out.1
                  unfold colOkU at h1 ⊢
                  rw [all_succ, h1]
                  unfold colOkAt
                  rw [HD.out.1, ← HX.out, decide_eq_true HR1.out.1, decide_eq_true HR1.out.2]
                  rfl
                case measure => omega
          · have hf : Hid (colOkU m l l.length = false ∧ inB x 0 400 = false) := hid (by
              have : (decide (0 ≤ x) && decide (x ≤ 400)) = false := by
                rw [Bool.and_eq_false_iff]
                by_cases h : 0 ≤ x
                · exact .inr (decide_eq_false (fun h2 => hr ⟨h, h2⟩))
                · exact .inl (decide_eq_false h)
              refine ⟨?_, by rw [HIN.out]; exact this⟩
              unfold colOkU
              refine all_false hlt ?_
              unfold colOkAt
              rw [← HX.out]
              rw [this, Bool.false_and])
            clear hr
            go_wp2_with (go_at_call 53; (with_reducible refine (in_any x _ _ _).mono ?_); rw [hf.out.2]; rintro e w' ⟨rfl, rfl⟩)
            go_ret
            rw [HV.out, hf.out.1]
            exact ⟨rfl, HB.out.2⟩
        · have hbn : b = l.length := by omega
          subst hbn
          go_wp2
          go_ret
          rw [HV.out, HB.out.1]
          exact ⟨rfl, HB.out.2⟩
    · have HV : Hid (chkC m l = 1) := hid (by unfold chkC; rw [if_pos HE.out, if_neg hln])
      have hne : ((l.length : Int) != (colsN m : Int)) = true := by rw [bne_iff_ne]; omega
      clear hln
      go_enter Try.func48, Try.ntmps48
      go_wp2_with (go_at_call 45; (with_reducible refine (rcheck_any m _ cap _ HL.out hlen HR.out).mono ?_); rw [HE.out]; rintro e w1 ⟨rfl, hb⟩; have HB1 := hid hb; have hc0 := cell_later hb HC0.out; clear hb)
      go_ret
      rw [HV.out]
      exact ⟨rfl, HB1.out⟩
  · have hne : (chkM m != 0) = true := by rw [bne_iff_ne]; exact hE
    have HV : Hid (chkC m l = chkM m) := hid (if_neg hE)
    clear hE
    go_enter Try.func48, Try.ntmps48
    go_wp2_with (go_at_call 45; (with_reducible refine (rcheck_any m _ cap _ HL.out hlen HR.out).mono ?_); rintro e w1 ⟨rfl, hb⟩; have HB1 := hid hb; clear hb)
    go_ret
    rw [HV.out]
    exact ⟨rfl, HB1.out⟩
end Go.Proofs.Ytliajnflmddnoaa
