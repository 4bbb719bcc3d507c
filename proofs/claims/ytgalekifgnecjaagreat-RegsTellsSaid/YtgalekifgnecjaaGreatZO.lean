/- The reference of layer 16: Right. The reference of layer 16: Groups, Least, Traffic, Press. -/
import Derived.Test.YtgalekifgnecjaaGreatZK
import Derived.Test.YtgalekifgnecjaaGreatZB
import Derived.Test.YtgalekifgnecjaaGreatX1
import Derived.BigQuiet
namespace Go.Proofs.YtgalekifgnecjaaGreat
open Go.RowKit

open Go.RowKit Go.Shelf
attribute [local go_sem] Oper.semAt_some
attribute [local irreducible] wpStill
theorem plain_sl {u : UntN} (h : plainB u = true) : 0 ≤ u.slots ∧ u.slots ≤ 200 := by
  unfold plainB inN at h
  simp at h
  omega
theorem bne_f {a b : Int} (h : (a != b) = false) : (a == b) = true := by unfold bne at h; simpa using h
theorem bne_t {a b : Int} (h : (a != b) = true) : (a == b) = false := by unfold bne at h; simpa using h
theorem bdN {B : Nat} {a w : World} (h : Below B a w) (n : Nat) : Below B a (w.drewN n) := bdrewN h n
set_option maxRecDepth 100000 in
set_option maxHeartbeats 20000000 in
theorem right53 (u : UntN) (ca : Option Addr) (cc : Nat) (ga : Option Addr) (gc : Nat) (w : World) (hm : UnM w u ca cc ga gc) (hlc : u.code.length ≤ 1000000) (hlg : u.guards.length ≤ 1000000) (hab : ∀ x ∈ u.code, -9223372036854775808 ≤ x.a ∧ x.a ≤ 9223372036854775807) :
    Calls Tryz.prog 53 #[vU u ca cc ga gc] w (RetB (.int .i64 (if writB u = true then 0 else 1)) w) := by
  rw [← right_writ u]
  have HR : Hid (rightB u = (plainB u && u.frame == 0 && decide (1 ≤ u.slots) && inN u.args 0 u.slots && (List.range u.code.length).all (rightIns u (firstsL u.code)) && endsB (u.code.getD (u.code.length - 1) ins0))) := hid rfl
  have HRI : Hid (∀ t, (rightIns u (firstsL u.code) t = (!((u.code.getD t ins0).op == 33) && !((u.code.getD t ins0).op == 34) && !decide ((firstsL u.code).getD t 0 < 0) && (readsL (u.code.getD t ins0)).all (fun s => inN s 0 (u.slots - 1)) &&
    (writesI (u.code.getD t ins0) == -1 || inN (writesI (u.code.getD t ins0)) 0 (u.slots - 1)) && !(decide ((firstsL u.code).getD t 0 < (t : Int)) && ledB u t)))) := hid (fun _ => rfl)
  have HM := hid hm
  have HAB := hid hab
  have HPL := hid (fun w' (hb : Below w.heap.size w w') => plain61 u ca cc ga gc w' (hm.below hb) hlc hlg)
  have HGS := hid (fun w' (hb : Below w.heap.size w w') => groups54 u ca cc ga gc w' (hm.below hb) hlc hab)
  have HLP := hid (fun (hp : plainB u = true) => plain_leads hp)
  have HSP := hid (fun (hp : plainB u = true) => plain_sl hp)
  have HFL : Hid ((firstsL u.code).length = u.code.length) := hid (fsTo_length _ _)
  clear hm hab
  have HLE := hid (fun (hp : plainB u = true) (t : Nat) (hn : u.code.length ≤ 600) (hg : u.guards.length ≤ 40) (w' : World) (hb : Below w.heap.size w w') => led116 u (t : Int) hp ca cc ga gc w' (HM.out.below hb) hn hg)
  obtain ⟨res, hres⟩ : ∃ r : Int, r = if rightB u = true then 0 else 1 := ⟨_, rfl⟩
  rw [← hres]
  generalize rightB u = rb at *
  have HR0 : Hid (rb = false → res = 1) := hid (fun h => by rw [hres, h]; rfl)
  have HR1 : Hid (rb = true → res = 0) := hid (fun h => by rw [hres, h]; rfl)
  clear hres
  have HX1 := hid (heapn w (oU u ca cc ga gc) _ rfl)
  have HB := hid (bnew w (oU u ca cc ga gc))
  go_enter Tryz.func53, Tryz.ntmps53
  go_upto_region 1 with fail
  obtain ⟨w1, hw1⟩ : ∃ w1, w1 = w.alloc (oU u ca cc ga gc) := ⟨_, rfl⟩
  rw [← hw1] at HX1 HB
  rw [← hw1]
  clear hw1
  obtain ⟨k0, k1, k2, k3, k4, k5, k6⟩ := box7 HX1.out
  cases hp : plainB u with
  | false =>
    rw [hp] at HPL HR
    have HV : Hid (rb = false) := hid HR.out
    clear hp
    go_wp2_with (first
      | (go_at_call 61; (with_reducible refine (HPL.out _ HB.out).mono ?_); rintro e w2 ⟨rfl, hb⟩; have HX2 := hid (keepBox hb HX1.out); obtain ⟨j0, j1, j2, j3, j4, j5, j6⟩ := box7 HX2.out; have HB2 := hid (HB.out.step hb); clear hb))
    go_ret
    exact ⟨by rw [HR0.out HV.out]; rfl, HB2.out⟩
  | true =>
  rw [hp, Bool.true_and] at HR
  obtain ⟨hn0, hn6, hg4, -⟩ := HLP.out hp
  obtain ⟨hs0, hs2⟩ := HSP.out hp
  replace HLE := hid (HLE.out hp)
  rw [hp] at HPL
  clear hp HLP HSP
  cases hf : (u.frame != 0) with
  | true =>
    have HV : Hid (rb = false) := hid (by rw [HR.out, show (u.frame == 0) = false from bne_t hf]; rfl)
    go_wp2_with (first
      | (go_at_call 61; (with_reducible refine (HPL.out _ HB.out).mono ?_); rintro e w2 ⟨rfl, hb⟩; have HX2 := hid (keepBox hb HX1.out); obtain ⟨j0, j1, j2, j3, j4, j5, j6⟩ := box7 HX2.out; have HB2 := hid (HB.out.step hb); clear hb))
    go_ret
    exact ⟨by rw [HR0.out HV.out]; rfl, HB2.out⟩
  | false =>
  rw [show (u.frame == 0) = true from bne_f hf, Bool.true_and] at HR
  by_cases hs1 : u.slots < 1
  · have HV : Hid (rb = false) := hid (by rw [HR.out, show decide (1 ≤ u.slots) = false by simp; omega]; rfl)
    go_wp2_with (first
      | (go_at_call 61; (with_reducible refine (HPL.out _ HB.out).mono ?_); rintro e w2 ⟨rfl, hb⟩; have HX2 := hid (keepBox hb HX1.out); obtain ⟨j0, j1, j2, j3, j4, j5, j6⟩ := box7 HX2.out; have HB2 := hid (HB.out.step hb); clear hb))
    go_ret
    exact ⟨by rw [HR0.out HV.out]; rfl, HB2.out⟩
  rw [show decide (1 ≤ u.slots) = true by simp; omega, Bool.true_and] at HR
  cases ha : inN u.args 0 u.slots with
  | false =>
    rw [ha] at HR
    have HV : Hid (rb = false) := hid (by rw [HR.out]; rfl)
    have HIA := hid (fun w => in56 u.args 0 u.slots w)
    rw [ha] at HIA
    go_wp2_with (first
      | (go_at_call 61; (with_reducible refine (HPL.out _ HB.out).mono ?_); rintro e w2 ⟨rfl, hb⟩; have HX2 := hid (keepBox hb HX1.out); obtain ⟨j0, j1, j2, j3, j4, j5, j6⟩ := box7 HX2.out; have HB2 := hid (HB.out.step hb); clear hb)
      | (go_at_call 56; (with_reducible refine (HIA.out _).mono ?_); rintro e w8 ⟨rfl, rfl⟩))
    go_ret
    exact ⟨by rw [HR0.out HV.out]; rfl, HB2.out⟩
  | true =>
  rw [ha, Bool.true_and] at HR
  have HIA := hid (fun w => in56 u.args 0 u.slots w)
  rw [ha] at HIA
  clear ha
  go_upto_region 5 with (first
    | (go_at_call 61; (with_reducible refine (HPL.out _ HB.out).mono ?_); rintro e w2 ⟨rfl, hb⟩; have HX2 := hid (keepBox hb HX1.out); obtain ⟨j0, j1, j2, j3, j4, j5, j6⟩ := box7 HX2.out; have HB2 := hid (HB.out.step hb); clear hb)
    | (go_at_call 56; (with_reducible refine (HIA.out _).mono ?_); rintro e w8 ⟨rfl, rfl⟩)
    | (go_at_call 54; (with_reducible refine (HGS.out _ HB2.out).mono ?_); rintro e w4 ⟨hb4, g, rfl, hbi, hge⟩; have HB4 := hid (HB2.out.step hb4); have HBI := hid hbi; have HUX := hid (fun wx (hb : Below w4.heap.size w4 wx) => keepBox (hb4.step hb) HX2.out); clear hb4 hbi hge))
  clear k0 k1 k2 k3 k4 k5 k6 j0 j1 j2 j3 j4 j5 j6 HPL HGS HIA hf HX1 HX2 HB HB2
  have HFR := hid (fun wx (hb : Below w4.heap.size w4 wx) => (HBI.out.below hb).rd)
  rw [HFL.out]
  have HU0 := hid (fun wx (hb : Below w4.heap.size w4 wx) => HB4.out.step hb)
  have hsl1 : IntKind.i64.wrap (u.slots - 1) = u.slots - 1 := wrapk (by omega)
  go_wp2
  go_loopg [5] u.code.length (fun gh s5 wr => ∃ t : Nat, t ≤ u.code.length ∧ gh = u.code.length - t ∧ s5 = .int .i64 t ∧ Hid ((∀ k, k < t → rightIns u (firstsL u.code) k = true) ∧ Below w4.heap.size w4 wr))
  case atStart => exact ⟨0, Nat.zero_le _, rfl, rfl, hid ⟨fun k h => absurd h (Nat.not_lt_zero k), Below.refl _ _⟩⟩
  case round =>
    obtain ⟨t, ht, rfl, rfl, HK⟩ := hrel
    obtain ⟨k0, k1, k2, k3, k4, k5, k6⟩ := box7 (HUX.out _ HK.out.2)
    by_cases hlt : t < u.code.length
    · have nt : (t : Int) < (u.code.length : Int) := by omega
      have HI := hid (HRI.out t)
      rw [getD_in hlt, getD_in (show t < (firstsL u.code).length by rw [HFL.out]; exact hlt)] at HI
      have HNO : Hid (rightIns u (firstsL u.code) t = false → rb = false) := hid (fun h => by
        rw [HR.out, show (List.range u.code.length).all (rightIns u (firstsL u.code)) = false from by
          rw [List.all_eq_false]
          exact ⟨t, List.mem_range.2 hlt, by rw [h]; simp⟩]
        rfl)
      have HYES : Hid (rightIns u (firstsL u.code) t = true → ∀ k, k < t + 1 → rightIns u (firstsL u.code) k = true) := hid (fun h k hk => by
        by_cases e : k = t
        · subst e; exact h
        · exact HK.out.1 k (by omega))
      have HFC : Hid (∀ wx, Below w4.heap.size w4 wx → wx.cell? ⟨g, t, none⟩ = some (.int .i64 ((firstsL u.code)[t]'(by rw [HFL.out]; exact hlt)))) := hid (fun wx hb => by
        obtain ⟨b9, o9, e9, _, h9⟩ := HFR.out wx hb t (by rw [HFL.out]; exact hlt)
        cases e9
        rw [Nat.zero_add] at h9
        exact h9)
      have HLD := hid (HLE.out t hn6 hg4)
      obtain ⟨b2, off, hca, hlt2, c0, c1, c2, c3⟩ := (HM.out.rc.below (HU0.out _ HK.out.2)) t hlt
      subst hca
      go_upto_region 9 with fail
      obtain ⟨w5, hw5⟩ : ∃ W, W = wr.alloc (.cells #[.int .i64 u.code[t].op, .int .i64 u.code[t].a, .int .i64 u.code[t].b, .int .i64 u.code[t].c] 85) := ⟨_, rfl⟩
      obtain ⟨b6, hb6⟩ : ∃ b, b = wr.heap.size := ⟨_, rfl⟩
      have HX6 : Hid (w5.heap[b6]? = some (.cells #[.int .i64 u.code[t].op, .int .i64 u.code[t].a, .int .i64 u.code[t].b, .int .i64 u.code[t].c] 85)) := hid (by rw [hw5]; exact heapn _ _ _ hb6)
      have HB5 : Hid (Below w4.heap.size w4 w5) := hid (by rw [hw5]; exact HK.out.2.step (bnew _ _))
      rw [← hw5, ← hb6]
      clear hw5 hb6 c0 c1 c2 c3 hlt2 k0 k1 k2 k3 k4 k5 k6
      obtain ⟨q0, q1, q2, q3⟩ := box4 HX6.out
      have z7 := HFC.out _ HB5.out
      have HRD := hid (reads115 u.code[t])
      have HWR := hid (writes82 u.code[t])
      have HR2 := hid (readsL_len u.code[t])
      clear HK
      generalize rightIns u (firstsL u.code) t = RI at *
      generalize (firstsL u.code)[t]'(by rw [HFL.out]; exact hlt) = fv at *
      generalize u.code[t] = x at *
      cases e33 : (x.op == 33) with
      | true =>
        rw [e33] at HI
        replace HNO := hid (HNO.out (HI.out.trans (by simp)))
        go_wp2
        go_ret
        exact ⟨by rw [HR0.out HNO.out]; rfl, HB4.out.step HB5.out⟩
      | false =>
      rw [e33, Bool.not_false, Bool.true_and] at HI
      cases e34 : (x.op == 34) with
      | true =>
        rw [e34] at HI
        replace HNO := hid (HNO.out (HI.out.trans (by simp)))
        go_wp2
        go_ret
        exact ⟨by rw [HR0.out HNO.out]; rfl, HB4.out.step HB5.out⟩
      | false =>
      rw [e34, Bool.not_false, Bool.true_and] at HI
      by_cases hfv : fv < 0
      · rw [decide_eq_true hfv] at HI
        replace HNO := hid (HNO.out (HI.out.trans (by simp)))
        go_wp2
        go_ret
        exact ⟨by rw [HR0.out HNO.out]; rfl, HB4.out.step HB5.out⟩
      rw [decide_eq_false hfv, Bool.not_false, Bool.true_and] at HI
      go_upto_region 12 with (first
        | (go_at_call 115; (with_reducible refine (HRD.out _).mono ?_); rintro e w6 ⟨hb6, v6, rfl, ho6⟩; have HB6 := hid (HB5.out.step hb6); have HO6 := hid ho6; have HX7 := hid (fun wx (hb : Below w6.heap.size w6 wx) => keepBox (hb6.step hb) HX6.out); clear hb6 ho6))
      clear q0 q1 q2 q3 z7 HX6 HB5 HRD e33 e34
      obtain ⟨ra, rc, rfl, hrr⟩ := HO6.out.rd
      have HRR := hid hrr
      clear hrr HO6
      generalize readsL x = R at *
      have hr2 := HR2.out
      go_wp2
      go_loopg [8] R.length (fun gh s8 wr => ∃ j : Nat, j ≤ R.length ∧ gh = R.length - j ∧ s8 = .int .i64 j ∧ Hid ((∀ s ∈ R.take j, inN s 0 (u.slots - 1) = true) ∧ Below w6.heap.size w6 wr))
      case atStart => exact ⟨0, Nat.zero_le _, rfl, rfl, hid ⟨by simp, Below.refl _ _⟩⟩
      case round =>
        obtain ⟨j, hj, rfl, rfl, HK⟩ := hrel
        have HBW := hid (HB6.out.step HK.out.2)
        by_cases hlj : j < R.length
        · obtain ⟨rb1, ro, hra, hltr, h0⟩ := (HRR.out.below HK.out.2) j hlj
          subst hra
          have nj : (j : Int) < (R.length : Int) := by omega
          have HT : Hid (R.take (j + 1) = R.take j ++ [R[j]]) := hid (take_last hlj)
          have HMM : Hid (R[j] ∈ R) := hid (List.getElem_mem hlj)
          obtain ⟨k0, k1, k2, k3, k4, k5, k6⟩ := box7 (HUX.out _ HBW.out)
          generalize R[j] = y at *
          have HIY := hid (fun w => in56 y 0 (u.slots - 1) w)
          cases hy : inN y 0 (u.slots - 1) with
          | false =>
            rw [hy] at HIY
            have HA : Hid (R.all (fun s => inN s 0 (u.slots - 1)) = false) := hid (by rw [List.all_eq_false]; exact ⟨y, HMM.out, by rw [hy]; simp⟩)
            rw [HA.out] at HI
            replace HNO := hid (HNO.out (HI.out.trans (by simp)))
            clear hy
            go_upto_region 15 with fail
            go_quiet ((go_at_call 56; exact Calls.quiet_of_same (retS (HIY.out _))))
            go_wp2
            go_ret
            exact ⟨by rw [HR0.out HNO.out]; rfl, bdN (HB4.out.step HBW.out) _⟩
          | true =>
            rw [hy] at HIY
            have HN2 : Hid (∀ s ∈ R.take (j + 1), inN s 0 (u.slots - 1) = true) := hid (fun s hs => by
              rw [HT.out, List.mem_append, List.mem_singleton] at hs
              rcases hs with hs | rfl
              · exact HK.out.1 s hs
              · exact hy)
            clear hy
            go_upto_region 15 with fail
            go_quiet ((go_at_call 56; exact Calls.quiet_of_same (retS (HIY.out _))))
            go_wp2
            go_roundg (R.length - (j + 1))
            case measure => omega
            case rel => exact ⟨j + 1, by omega, rfl, by go_num, hid ⟨HN2.out, bdN HK.out.2 _⟩⟩
        · obtain rfl : j = R.length := by omega
          have nj : ¬ (R.length : Int) < (R.length : Int) := by omega
          have HA : Hid (R.all (fun s => inN s 0 (u.slots - 1)) = true) := hid (by rw [List.all_eq_true]; have h := HK.out.1; rw [List.take_length] at h; exact h)
          rw [HA.out, Bool.true_and] at HI
          obtain ⟨q0, q1, q2, q3⟩ := box4 (HX7.out _ HK.out.2)
          clear HA HRR
          generalize writesI x = wv at *
          have HIN := hid (fun w => in56 wv 0 (u.slots - 1) w)
          cases hwv : (wv != -1) with
          | false =>
            rw [show (wv == -1) = true from bne_f hwv, Bool.true_or, Bool.true_and] at HI
            by_cases hft : fv < (t : Int)
            · rw [decide_eq_true hft, Bool.true_and] at HI
              cases hld : ledB u (t : Int) with
              | true =>
                rw [hld] at HI HLD
                replace HNO := hid (HNO.out (HI.out.trans (by simp)))
                clear hld
                go_wp2_with (first
                  | (go_at_call 82; (with_reducible refine (HWR.out _).mono ?_); rintro e w7 ⟨rfl, hb7⟩; have HB7 := hid (HBW.out.step hb7); obtain ⟨z0, z1, z2, z3, z4, z5, z6⟩ := box7 (HUX.out _ HB7.out); have z7 := HFC.out _ HB7.out; clear hb7)
                  | (go_at_call 116; (with_reducible refine (HLD.out _ (HU0.out _ HB7.out)).mono ?_); rintro e w9 ⟨rfl, hb9⟩; have HB9 := hid (HB7.out.step hb9); clear hb9))
                go_ret
                exact ⟨by rw [HR0.out HNO.out]; rfl, HB4.out.step HB9.out⟩
              | false =>
                rw [hld] at HI HLD
                replace HYES := hid (HYES.out (HI.out.trans (by simp)))
                clear hld
                go_wp2_with (first
                  | (go_at_call 82; (with_reducible refine (HWR.out _).mono ?_); rintro e w7 ⟨rfl, hb7⟩; have HB7 := hid (HBW.out.step hb7); obtain ⟨z0, z1, z2, z3, z4, z5, z6⟩ := box7 (HUX.out _ HB7.out); have z7 := HFC.out _ HB7.out; clear hb7)
                  | (go_at_call 116; (with_reducible refine (HLD.out _ (HU0.out _ HB7.out)).mono ?_); rintro e w9 ⟨rfl, hb9⟩; have HB9 := hid (HB7.out.step hb9); clear hb9))
                go_roundg (u.code.length - (t + 1))
                case measure => omega
                case rel => exact ⟨t + 1, by omega, rfl, by go_num, hid ⟨HYES.out, HB9.out⟩⟩
            · rw [decide_eq_false hft, Bool.false_and] at HI
              replace HYES := hid (HYES.out (HI.out.trans (by simp)))
              go_wp2_with (first
                | (go_at_call 82; (with_reducible refine (HWR.out _).mono ?_); rintro e w7 ⟨rfl, hb7⟩; have HB7 := hid (HBW.out.step hb7); obtain ⟨z0, z1, z2, z3, z4, z5, z6⟩ := box7 (HUX.out _ HB7.out); have z7 := HFC.out _ HB7.out; clear hb7))
              go_roundg (u.code.length - (t + 1))
              case measure => omega
              case rel => exact ⟨t + 1, by omega, rfl, by go_num, hid ⟨HYES.out, HB7.out⟩⟩
          | true =>
            rw [show (wv == -1) = false from bne_t hwv, Bool.false_or] at HI
            cases hwi : inN wv 0 (u.slots - 1) with
            | false =>
              rw [hwi] at HI HIN
              replace HNO := hid (HNO.out (HI.out.trans (by simp)))
              clear hwi
              go_wp2_with (first
                | (go_at_call 82; (with_reducible refine (HWR.out _).mono ?_); rintro e w7 ⟨rfl, hb7⟩; have HB7 := hid (HBW.out.step hb7); obtain ⟨z0, z1, z2, z3, z4, z5, z6⟩ := box7 (HUX.out _ HB7.out); have z7 := HFC.out _ HB7.out; clear hb7)
                | (go_at_call 56; (with_reducible refine (HIN.out _).mono ?_); rintro e w8 ⟨rfl, rfl⟩))
              go_ret
              exact ⟨by rw [HR0.out HNO.out]; rfl, HB4.out.step HB7.out⟩
            | true =>
              rw [hwi, Bool.true_and] at HI
              rw [hwi] at HIN
              clear hwi
              by_cases hft : fv < (t : Int)
              · rw [decide_eq_true hft, Bool.true_and] at HI
                cases hld : ledB u (t : Int) with
                | true =>
                  rw [hld] at HI HLD
                  replace HNO := hid (HNO.out (HI.out.trans (by simp)))
                  clear hld
                  go_wp2_with (first
                    | (go_at_call 82; (with_reducible refine (HWR.out _).mono ?_); rintro e w7 ⟨rfl, hb7⟩; have HB7 := hid (HBW.out.step hb7); obtain ⟨z0, z1, z2, z3, z4, z5, z6⟩ := box7 (HUX.out _ HB7.out); have z7 := HFC.out _ HB7.out; clear hb7)
                    | (go_at_call 56; (with_reducible refine (HIN.out _).mono ?_); rintro e w8 ⟨rfl, rfl⟩)
                    | (go_at_call 116; (with_reducible refine (HLD.out _ (HU0.out _ HB7.out)).mono ?_); rintro e w9 ⟨rfl, hb9⟩; have HB9 := hid (HB7.out.step hb9); clear hb9))
                  go_ret
                  exact ⟨by rw [HR0.out HNO.out]; rfl, HB4.out.step HB9.out⟩
                | false =>
                  rw [hld] at HI HLD
                  replace HYES := hid (HYES.out (HI.out.trans (by simp)))
                  clear hld
                  go_wp2_with (first
                    | (go_at_call 82; (with_reducible refine (HWR.out _).mono ?_); rintro e w7 ⟨rfl, hb7⟩; have HB7 := hid (HBW.out.step hb7); obtain ⟨z0, z1, z2, z3, z4, z5, z6⟩ := box7 (HUX.out _ HB7.out); have z7 := HFC.out _ HB7.out; clear hb7)
                    | (go_at_call 56; (with_reducible refine (HIN.out _).mono ?_); rintro e w8 ⟨rfl, rfl⟩)
                    | (go_at_call 116; (with_reducible refine (HLD.out _ (HU0.out _ HB7.out)).mono ?_); rintro e w9 ⟨rfl, hb9⟩; have HB9 := hid (HB7.out.step hb9); clear hb9))
                  go_roundg (u.code.length - (t + 1))
                  case measure => omega
                  case rel => exact ⟨t + 1, by omega, rfl, by go_num, hid ⟨HYES.out, HB9.out⟩⟩
              · rw [decide_eq_false hft, Bool.false_and] at HI
                replace HYES := hid (HYES.out (HI.out.trans (by simp)))
                go_wp2_with (first
                  | (go_at_call 82; (with_reducible refine (HWR.out _).mono ?_); rintro e w7 ⟨rfl, hb7⟩; have HB7 := hid (HBW.out.step hb7); obtain ⟨z0, z1, z2, z3, z4, z5, z6⟩ := box7 (HUX.out _ HB7.out); have z7 := HFC.out _ HB7.out; clear hb7)
                  | (go_at_call 56; (with_reducible refine (HIN.out _).mono ?_); rintro e w8 ⟨rfl, rfl⟩))
                go_roundg (u.code.length - (t + 1))
                case measure => omega
                case rel => exact ⟨t + 1, by omega, rfl, by go_num, hid ⟨HYES.out, HB7.out⟩⟩
    · obtain rfl : t = u.code.length := by omega
      have nt : ¬ (u.code.length : Int) < (u.code.length : Int) := by omega
      obtain ⟨m, hm⟩ : ∃ m, u.code.length = m + 1 := ⟨u.code.length - 1, by omega⟩
      have hml : m < u.code.length := by omega
      have nm : (u.code.length : Int) - 1 = (m : Int) := by omega
      have nml : (m : Int) < (u.code.length : Int) := by omega
      obtain ⟨b2, off, hca, hlt2, c0, c1, c2, c3⟩ := (HM.out.rc.below (HU0.out _ HK.out.2)) m hml
      subst hca
      have HRR : Hid (rb = endsB u.code[m]) := hid (by
        rw [HR.out, show (List.range u.code.length).all (rightIns u (firstsL u.code)) = true from by
          rw [List.all_eq_true]
          exact fun k hk => HK.out.1 k (List.mem_range.1 hk), Bool.true_and, show u.code.length - 1 = m by omega, getD_in hml])
      have HEN := hid (fun w => ends117 u.code[m] w)
      clear hm
      generalize u.code[m] = x at *
      cases hen : endsB x with
      | true =>
        rw [hen] at HEN HRR
        clear hen
        go_wp2_with (first
          | (go_at_call 117; (with_reducible refine (HEN.out _).mono ?_); rintro e w5 ⟨rfl, hb5⟩; have HB5 := hid (HK.out.2.step hb5); clear hb5))
        go_ret
        exact ⟨by rw [HR1.out HRR.out]; rfl, HB4.out.step HB5.out⟩
      | false =>
        rw [hen] at HEN HRR
        clear hen
        go_wp2_with (first
          | (go_at_call 117; (with_reducible refine (HEN.out _).mono ?_); rintro e w5 ⟨rfl, hb5⟩; have HB5 := hid (HK.out.2.step hb5); clear hb5))
        go_ret
        exact ⟨by rw [HR0.out HRR.out]; rfl, HB4.out.step HB5.out⟩

abbrev vNum (v : Value) (n e : Int) : Value := .agg #[v, .int .i64 n, .int .i64 e]
abbrev oNum (v : Value) (n e : Int) : Obj := .cells #[v, .int .i64 n, .int .i64 e] 35
theorem size35 : (Tryz.prog.info? 35).map (·.size) = some 3 := by kernel_rfl
theorem set3 {w : World} {g : Nat} {x0 x1 x2 : Value} {T : TypeId} (h : w.heap[g]? = some (.cells #[x0, x1, x2] T (0, 0))) (y0 y1 y2 : Value) :
    (((w.setCell ⟨g, 0, none⟩ y0).setCell ⟨g, 1, none⟩ y1).setCell ⟨g, 2, none⟩ y2).heap[g]? = some (.cells #[y0, y1, y2] T (0, 0)) := by
  have h0 : (w.setCell ⟨g, 0, none⟩ y0).heap[g]? = some (.cells #[y0, x1, x2] T (0, 0)) := heap_setCell_same _ _ 0 _ _ _ h
  clear h
  generalize w.setCell ⟨g, 0, none⟩ y0 = w at h0 ⊢
  have h1 : (w.setCell ⟨g, 1, none⟩ y1).heap[g]? = some (.cells #[y0, y1, x2] T (0, 0)) := heap_setCell_same _ _ 1 _ _ _ h0
  clear h0
  generalize w.setCell ⟨g, 1, none⟩ y1 = w at h1 ⊢
  exact heap_setCell_same _ _ 2 _ _ _ h1
theorem set3_below {B : Nat} {w0 w : World} {g : Nat} (h : Below B w0 w) (hg : B ≤ g) (y0 y1 y2 : Value) : Below B w0 (((w.setCell ⟨g, 0, none⟩ y0).setCell ⟨g, 1, none⟩ y1).setCell ⟨g, 2, none⟩ y2) :=
  ((h.setCell (p := ⟨g, 0, none⟩) hg _).setCell (p := ⟨g, 1, none⟩) hg _).setCell (p := ⟨g, 2, none⟩) hg _
theorem set3_other {w : World} {g k : Nat} (hn : k ≠ g) (y0 y1 y2 : Value) : (((w.setCell ⟨g, 0, none⟩ y0).setCell ⟨g, 1, none⟩ y1).setCell ⟨g, 2, none⟩ y2).heap[k]? = w.heap[k]? :=
  (heap_setCell_other _ _ _ _ hn).trans ((heap_setCell_other _ _ _ _ hn).trans (heap_setCell_other _ _ _ _ hn))
set_option maxRecDepth 100000 in
set_option maxHeartbeats 4000000 in
theorem groups30_no (u : UntN) (ca : Option Addr) (cc : Nat) (ga : Option Addr) (gc : Nat) (w : World) (hm : UnM w u ca cc ga gc) (hlc : u.code.length ≤ 1000000) (hlg : u.guards.length ≤ 1000000) (hab : ∀ x ∈ u.code, -9223372036854775808 ≤ x.a ∧ x.a ≤ 9223372036854775807) (hw : writB u = false) :
    Calls Tryz.prog 30 #[vU u ca cc ga gc] w (RetB (vNum (.slice none 0 0) 0 1) w) := by
  have HRT := hid (fun w' (hb : Below w.heap.size w w') => right53 u ca cc ga gc w' (hm.below hb) hlc hlg hab)
  rw [hw] at HRT
  have HM := hid hm
  have HX1 := hid (heapn w (oU u ca cc ga gc) _ rfl)
  have HB1 := hid (bnew w (oU u ca cc ga gc))
  clear hm hab hw
  go_enter Tryz.func30, Tryz.ntmps30
  go_upto_region 1 with fail
  obtain ⟨w2, hw2⟩ : ∃ w2, w2 = (w.alloc (oU u ca cc ga gc)).alloc (oNum (.slice none 0 0) 0 0) := ⟨_, rfl⟩
  have HX2 : Hid (w2.heap[w.heap.size]? = some (oU u ca cc ga gc)) := hid (by rw [hw2]; exact keepBox (bnew _ _) HX1.out)
  have HN2 : Hid (w2.heap[w.heap.size + 1]? = some (oNum (.slice none 0 0) 0 0)) := hid (by rw [hw2]; exact heapn _ _ _ (by simp))
  have HB2 : Hid (Below w.heap.size w w2) := hid (by rw [hw2]; exact HB1.out.step (bnew _ _))
  rw [← hw2]
  clear hw2 HX1 HB1
  have HUX := hid (fun wx (hb : Below w2.heap.size w2 wx) => keepBox hb HX2.out)
  have HUN := hid (fun wx (hb : Below w2.heap.size w2 wx) => keepBox hb HN2.out)
  obtain ⟨k0, k1, k2, k3, k4, k5, k6⟩ := box7 HX2.out
  go_wp2_with (first
    | (go_at_call 53; (with_reducible refine (HRT.out _ HB2.out).mono ?_); rintro e w3 ⟨rfl, hb3⟩; have HB3 := hid hb3; obtain ⟨j0, j1, j2, j3, j4, j5, j6⟩ := box7 (HUX.out _ hb3); obtain ⟨n0, n1, n2⟩ := box3 (HUN.out _ hb3); have f0 := boxF 0 (HUN.out _ hb3); have f1 := boxF 1 (HUN.out _ hb3); have f2 := boxF 2 (HUN.out _ hb3); clear hb3))
  exact bodyPost_ret (v := vNum (.slice none 0 0) 0 1) (results_cell_row rfl _ _ (w.heap.size + 1) 35 _ (0, 0) _ rfl (set3 (HUN.out _ HB3.out) _ _ _) Tryz.underlying35 rfl size35) rfl ⟨rfl, set3_below (HB2.out.step HB3.out) (by omega) _ _ _⟩
set_option maxRecDepth 100000 in
set_option maxHeartbeats 8000000 in
theorem groups30_yes (u : UntN) (ca : Option Addr) (cc : Nat) (ga : Option Addr) (gc : Nat) (w : World) (hm : UnM w u ca cc ga gc) (hlc : u.code.length ≤ 1000000) (hlg : u.guards.length ≤ 1000000) (hab : ∀ x ∈ u.code, -9223372036854775808 ≤ x.a ∧ x.a ≤ 9223372036854775807) (hw : writB u = true) :
    Calls Tryz.prog 30 #[vU u ca cc ga gc] w (fun e w' => Below w.heap.size w w' ∧ ∃ g, e = .returned (vNum (.slice (some ⟨g, 0, none⟩) u.code.length u.code.length) 0 0) ∧ BI w' g (firstsL u.code)) := by
  have HRT := hid (fun w' (hb : Below w.heap.size w w') => right53 u ca cc ga gc w' (hm.below hb) hlc hlg hab)
  rw [hw] at HRT
  have HM := hid hm
  have HX1 := hid (heapn w (oU u ca cc ga gc) _ rfl)
  have HB1 := hid (bnew w (oU u ca cc ga gc))
  have HGS := hid (fun w' (hb : Below w.heap.size w w') => groups54 u ca cc ga gc w' (hm.below hb) hlc hab)
  have HFL : Hid ((firstsL u.code).length = u.code.length) := hid (fsTo_length _ _)
  clear hm hab hw
  go_enter Tryz.func30, Tryz.ntmps30
  go_upto_region 1 with fail
  obtain ⟨w2, hw2⟩ : ∃ w2, w2 = (w.alloc (oU u ca cc ga gc)).alloc (oNum (.slice none 0 0) 0 0) := ⟨_, rfl⟩
  have HX2 : Hid (w2.heap[w.heap.size]? = some (oU u ca cc ga gc)) := hid (by rw [hw2]; exact keepBox (bnew _ _) HX1.out)
  have HN2 : Hid (w2.heap[w.heap.size + 1]? = some (oNum (.slice none 0 0) 0 0)) := hid (by rw [hw2]; exact heapn _ _ _ (by simp))
  have HB2 : Hid (Below w.heap.size w w2) := hid (by rw [hw2]; exact HB1.out.step (bnew _ _))
  rw [← hw2]
  clear hw2 HX1 HB1
  have HUX := hid (fun wx (hb : Below w2.heap.size w2 wx) => keepBox hb HX2.out)
  have HUN := hid (fun wx (hb : Below w2.heap.size w2 wx) => keepBox hb HN2.out)
  obtain ⟨k0, k1, k2, k3, k4, k5, k6⟩ := box7 HX2.out
  go_wp2_with (first
    | (go_at_call 53; (with_reducible refine (HRT.out _ HB2.out).mono ?_); rintro e w3 ⟨rfl, hb3⟩; have HB3 := hid hb3; obtain ⟨j0, j1, j2, j3, j4, j5, j6⟩ := box7 (HUX.out _ hb3); obtain ⟨n0, n1, n2⟩ := box3 (HUN.out _ hb3); have f0 := boxF 0 (HUN.out _ hb3); have f1 := boxF 1 (HUN.out _ hb3); have f2 := boxF 2 (HUN.out _ hb3); clear hb3)
    | (go_at_call 54; (with_reducible refine (HGS.out _ (HB2.out.step HB3.out)).mono ?_); rintro e w4 ⟨hb4, g, rfl, hbi, hge⟩; have HB4 := hid (HB3.out.step hb4); have HBI := hid hbi; have HGE := hid (Nat.le_trans (lt_of_heap (HUN.out _ HB3.out)) hge); obtain ⟨m0, m1, m2⟩ := box3 (HUN.out _ (HB3.out.step hb4)); have g0 := boxF 0 (HUN.out _ (HB3.out.step hb4)); have g1 := boxF 1 (HUN.out _ (HB3.out.step hb4)); have g2 := boxF 2 (HUN.out _ (HB3.out.step hb4)); obtain ⟨l0, l1, l2, l3, l4, l5, l6⟩ := box7 (HUX.out _ (HB3.out.step hb4)); clear hb4 hbi hge))
  exact bodyPost_ret (v := vNum (.slice (some ⟨g, 0, none⟩) (firstsL u.code).length (firstsL u.code).length) 0 0) (results_cell_row rfl _ _ (w.heap.size + 1) 35 _ (0, 0) _ rfl (set3 (HUN.out _ HB4.out) _ _ _) Tryz.underlying35 rfl size35) rfl
    ⟨set3_below (HB2.out.step HB4.out) (by omega) _ _ _, g, by rw [HFL.out], HBI.out.keep (set3_other (by have := HGE.out; omega) _ _ _)⟩
set_option maxRecDepth 100000 in
set_option maxHeartbeats 4000000 in
theorem least14_no (u : UntN) (ca : Option Addr) (cc : Nat) (ga : Option Addr) (gc : Nat) (w : World) (hm : UnM w u ca cc ga gc) (hlc : u.code.length ≤ 1000000) (hlg : u.guards.length ≤ 1000000) (hab : ∀ x ∈ u.code, -9223372036854775808 ≤ x.a ∧ x.a ≤ 9223372036854775807) (hw : writB u = false) :
    Calls Tryz.prog 14 #[vU u ca cc ga gc] w (RetB (vNum (.slice none 0 0) 0 1) w) := by
  have HRT := hid (fun w' (hb : Below w.heap.size w w') => right53 u ca cc ga gc w' (hm.below hb) hlc hlg hab)
  rw [hw] at HRT
  have HM := hid hm
  have HX1 := hid (heapn w (oU u ca cc ga gc) _ rfl)
  have HB1 := hid (bnew w (oU u ca cc ga gc))
  clear hm hab hw
  go_enter Tryz.func14, Tryz.ntmps14
  go_upto_region 1 with fail
  obtain ⟨w2, hw2⟩ : ∃ w2, w2 = (w.alloc (oU u ca cc ga gc)).alloc (oNum (.slice none 0 0) 0 0) := ⟨_, rfl⟩
  have HX2 : Hid (w2.heap[w.heap.size]? = some (oU u ca cc ga gc)) := hid (by rw [hw2]; exact keepBox (bnew _ _) HX1.out)
  have HN2 : Hid (w2.heap[w.heap.size + 1]? = some (oNum (.slice none 0 0) 0 0)) := hid (by rw [hw2]; exact heapn _ _ _ (by simp))
  have HB2 : Hid (Below w.heap.size w w2) := hid (by rw [hw2]; exact HB1.out.step (bnew _ _))
  rw [← hw2]
  clear hw2 HX1 HB1
  have HUX := hid (fun wx (hb : Below w2.heap.size w2 wx) => keepBox hb HX2.out)
  have HUN := hid (fun wx (hb : Below w2.heap.size w2 wx) => keepBox hb HN2.out)
  obtain ⟨k0, k1, k2, k3, k4, k5, k6⟩ := box7 HX2.out
  go_wp2_with (first
    | (go_at_call 53; (with_reducible refine (HRT.out _ HB2.out).mono ?_); rintro e w3 ⟨rfl, hb3⟩; have HB3 := hid hb3; obtain ⟨j0, j1, j2, j3, j4, j5, j6⟩ := box7 (HUX.out _ hb3); obtain ⟨n0, n1, n2⟩ := box3 (HUN.out _ hb3); have f0 := boxF 0 (HUN.out _ hb3); have f1 := boxF 1 (HUN.out _ hb3); have f2 := boxF 2 (HUN.out _ hb3); clear hb3))
  exact bodyPost_ret (v := vNum (.slice none 0 0) 0 1) (results_cell_row rfl _ _ (w.heap.size + 1) 35 _ (0, 0) _ rfl (set3 (HUN.out _ HB3.out) _ _ _) Tryz.underlying35 rfl size35) rfl ⟨rfl, set3_below (HB2.out.step HB3.out) (by omega) _ _ _⟩
set_option maxRecDepth 100000 in
set_option maxHeartbeats 8000000 in
theorem least14_yes (u : UntN) (ca : Option Addr) (cc : Nat) (ga : Option Addr) (gc : Nat) (w : World) (hm : UnM w u ca cc ga gc) (hlc : u.code.length ≤ 1000000) (hlg : u.guards.length ≤ 1000000) (hab : ∀ x ∈ u.code, -9223372036854775808 ≤ x.a ∧ x.a ≤ 9223372036854775807) (hw : writB u = true) :
    Calls Tryz.prog 14 #[vU u ca cc ga gc] w (RetB (vNum (.slice none 0 0) (leastN u : Nat) 0) w) := by
  have HRT := hid (fun w' (hb : Below w.heap.size w w') => right53 u ca cc ga gc w' (hm.below hb) hlc hlg hab)
  rw [hw] at HRT
  have HM := hid hm
  have HX1 := hid (heapn w (oU u ca cc ga gc) _ rfl)
  have HB1 := hid (bnew w (oU u ca cc ga gc))
  have HGS := hid (fun w' (hb : Below w.heap.size w w') => groups54 u ca cc ga gc w' (hm.below hb) hlc hab)
  have HFL : Hid ((firstsL u.code).length = u.code.length) := hid (fsTo_length _ _)
  have hn6 : u.code.length ≤ 600 := (plain_leads (writ_plain hw)).2.1
  have HFIN := hid (least_to hw)
  have HRS := hid (fun (t : Nat) (ht : t < u.code.length) (fa : Option Addr) (fc : Nat) w' (hb : Below w.heap.size w w') (hf : RdI w' fa (firstsL u.code)) => reads55 u (firstsL u.code) t fa fc ca cc ga gc w' (hm.rc.below hb) hf ht (fsTo_length _ _) hn6)
  clear hm hab hw
  go_enter Tryz.func14, Tryz.ntmps14
  go_upto_region 1 with fail
  obtain ⟨w2, hw2⟩ : ∃ w2, w2 = (w.alloc (oU u ca cc ga gc)).alloc (oNum (.slice none 0 0) 0 0) := ⟨_, rfl⟩
  have HX2 : Hid (w2.heap[w.heap.size]? = some (oU u ca cc ga gc)) := hid (by rw [hw2]; exact keepBox (bnew _ _) HX1.out)
  have HN2 : Hid (w2.heap[w.heap.size + 1]? = some (oNum (.slice none 0 0) 0 0)) := hid (by rw [hw2]; exact heapn _ _ _ (by simp))
  have HB2 : Hid (Below w.heap.size w w2) := hid (by rw [hw2]; exact HB1.out.step (bnew _ _))
  rw [← hw2]
  clear hw2 HX1 HB1
  have HUX := hid (fun wx (hb : Below w2.heap.size w2 wx) => keepBox hb HX2.out)
  have HUN := hid (fun wx (hb : Below w2.heap.size w2 wx) => keepBox hb HN2.out)
  obtain ⟨k0, k1, k2, k3, k4, k5, k6⟩ := box7 HX2.out
  go_upto_region 6 with (first
    | (go_at_call 53; (with_reducible refine (HRT.out _ HB2.out).mono ?_); rintro e w3 ⟨rfl, hb3⟩; have HB3 := hid hb3; obtain ⟨j0, j1, j2, j3, j4, j5, j6⟩ := box7 (HUX.out _ hb3); obtain ⟨n0, n1, n2⟩ := box3 (HUN.out _ hb3); have f0 := boxF 0 (HUN.out _ hb3); have f1 := boxF 1 (HUN.out _ hb3); have f2 := boxF 2 (HUN.out _ hb3); clear hb3)
    | (go_at_call 54; (with_reducible refine (HGS.out _ (HB2.out.step HB3.out)).mono ?_); rintro e w4 ⟨hb4, g, rfl, hbi, hge⟩; have HB4 := hid (HB3.out.step hb4); have HBI := hid hbi; have HGE := hid (Nat.le_trans (lt_of_heap (HUN.out _ HB3.out)) hge); obtain ⟨m0, m1, m2⟩ := box3 (HUN.out _ (HB3.out.step hb4)); have g0 := boxF 0 (HUN.out _ (HB3.out.step hb4)); have g1 := boxF 1 (HUN.out _ (HB3.out.step hb4)); have g2 := boxF 2 (HUN.out _ (HB3.out.step hb4)); obtain ⟨l0, l1, l2, l3, l4, l5, l6⟩ := box7 (HUX.out _ (HB3.out.step hb4)); clear hb4 hbi hge))
  clear k0 k1 k2 k3 k4 k5 k6 j0 j1 j2 j3 j4 j5 j6 l0 l1 l2 l3 l4 l5 l6 n0 n1 n2 m0 m1 m2 f0 f1 f2 g0 g1 g2
  rw [HFL.out]
  go_wp2
  go_loopg [5, 6] u.code.length (fun gh s5 s6 wr => ∃ t : Nat, t ≤ u.code.length ∧ gh = u.code.length - t ∧ s6 = .int .i64 t ∧ s5 = .int .i64 (leastTo u t : Nat) ∧ Hid (Below w4.heap.size w4 wr))
  case atStart => exact ⟨0, Nat.zero_le _, rfl, rfl, rfl, hid (Below.refl _ _)⟩
  case round =>
    obtain ⟨t, ht, rfl, rfl, rfl, HK⟩ := hrel
    obtain ⟨k0, k1, k2, k3, k4, k5, k6⟩ := box7 (HUX.out _ (HB4.out.step HK.out))
    by_cases hlt : t < u.code.length
    · have nt : (t : Int) < (u.code.length : Int) := by omega
      have hfc := (HBI.out.below HK.out).at (i := t) (by rw [HFL.out]; exact hlt)
      have HST : Hid (leastTo u (t + 1) = if (firstsL u.code)[t]'(by rw [HFL.out]; exact hlt) = (t : Int) then max (leastTo u t) (grpReads u.code t (grpEnd (firstsL u.code) t)).length else leastTo u t) := hid (by
        show (if (firstsL u.code).getD t 0 = (t : Int) then _ else _) = _
        rw [getD_in (by rw [HFL.out]; exact hlt)])
      have HRD := hid (HRS.out t hlt (some ⟨g, 0, none⟩) u.code.length wr (HB2.out.step (HB4.out.step HK.out)) (HBI.out.below HK.out).rd)
      rw [HFL.out] at HRD
      generalize (firstsL u.code)[t]'(by rw [HFL.out]; exact hlt) = fv at *
      generalize grpReads u.code t (grpEnd (firstsL u.code) t) = GR at *
      generalize leastTo u t = L at *
      cases hft : (fv == (t : Int)) with
      | true =>
        rw [if_pos (by simpa using hft)] at HST
        have HST2 : Hid (((leastTo u (t + 1) : Nat) : Int) = max (L : Int) (GR.length : Int)) := hid (by rw [HST.out]; omega)
        clear HST
        go_wp2_with (first
          | (go_at_call 55; (with_reducible refine HRD.out.mono ?_); rintro e w5 ⟨hb5, v5, rfl, ho5⟩; obtain ⟨ra, rc, rfl, -⟩ := ho5.rd; have HB5 := hid (HK.out.step hb5); clear hb5 ho5))
        go_roundg (u.code.length - (t + 1))
        case measure => omega
        case rel => exact ⟨t + 1, by omega, rfl, by go_num, by rw [HST2.out], hid HB5.out⟩
      | false =>
        rw [if_neg (by simpa using hft)] at HST
        have HST2 : Hid (leastTo u (t + 1) = L) := hid HST.out
        clear HST
        go_wp2
        go_roundg (u.code.length - (t + 1))
        case measure => omega
        case rel => exact ⟨t + 1, by omega, rfl, by go_num, by rw [HST2.out], hid HK.out⟩
    · obtain rfl : t = u.code.length := by omega
      have nt : ¬ (u.code.length : Int) < (u.code.length : Int) := by omega
      rw [HFIN.out]
      obtain ⟨n0, n1, n2⟩ := box3 (HUN.out _ (HB4.out.step HK.out))
      have f0 := boxF 0 (HUN.out _ (HB4.out.step HK.out)); have f1 := boxF 1 (HUN.out _ (HB4.out.step HK.out)); have f2 := boxF 2 (HUN.out _ (HB4.out.step HK.out))
      go_wp2
      exact bodyPost_ret (v := vNum (.slice none 0 0) (leastN u : Nat) 0) (results_cell_row rfl _ _ (w.heap.size + 1) 35 _ (0, 0) _ rfl (set3 (HUN.out _ (HB4.out.step HK.out)) _ _ _) Tryz.underlying35 rfl size35) rfl ⟨rfl, set3_below (HB2.out.step (HB4.out.step HK.out)) (by omega) _ _ _⟩
theorem many_succ (u : UntN) (n : Int) {t : Nat} (ht : t < u.code.length) : ((u.code.take (t + 1)).filter (opB n)).length = ((u.code.take t).filter (opB n)).length + (if (u.code[t].op == n) = true then 1 else 0) := by
  rw [take_last ht, List.filter_append, List.length_append, List.filter_cons]
  have e : opB n u.code[t] = (u.code[t].op == n) := rfl
  rw [e]
  split <;> simp
set_option maxRecDepth 100000 in
set_option maxHeartbeats 8000000 in
theorem traffic16 (u : UntN) (ca : Option Addr) (cc : Nat) (ga : Option Addr) (gc : Nat) (w : World) (hm : UnM w u ca cc ga gc) (hlc : u.code.length ≤ 1000000) (hlg : u.guards.length ≤ 1000000) :
    Calls Tryz.prog 16 #[vU u ca cc ga gc] w (RetB (.tuple #[.int .i64 (if plainB u = true then manyN u 33 else 0 : Nat), .int .i64 (if plainB u = true then manyN u 34 else 0 : Nat), .int .i64 (if plainB u = true then 0 else 1)]) w) := by
  have HPL := hid (fun w' (hb : Below w.heap.size w w') => plain61 u ca cc ga gc w' (hm.below hb) hlc hlg)
  have HM := hid hm
  have HX1 := hid (heapn w (oU u ca cc ga gc) _ rfl)
  have HB := hid (bnew w (oU u ca cc ga gc))
  have HMS := hid (fun n t (ht : t < u.code.length) => many_succ u n ht)
  clear hm
  cases hp : plainB u with
  | false =>
    rw [hp] at HPL
    rw [if_neg (by simp), if_neg (by simp), if_neg (by simp)]
    clear hp
    go_enter Tryz.func16, Tryz.ntmps16
    go_upto_region 1 with fail
    obtain ⟨w1, hw1⟩ : ∃ w1, w1 = w.alloc (oU u ca cc ga gc) := ⟨_, rfl⟩
    rw [← hw1] at HX1 HB
    rw [← hw1]
    clear hw1
    obtain ⟨k0, k1, k2, k3, k4, k5, k6⟩ := box7 HX1.out
    go_wp2_with (first
      | (go_at_call 61; (with_reducible refine (HPL.out _ HB.out).mono ?_); rintro e w2 ⟨rfl, hb⟩; have HB2 := hid (HB.out.step hb); clear hb))
    go_ret3
    exact ⟨rfl, HB2.out⟩
  | true =>
    rw [hp] at HPL
    rw [if_pos rfl, if_pos rfl, if_pos rfl]
    clear hp
    have HFA : Hid (manyN u 33 = ((u.code.take u.code.length).filter (opB 33)).length ∧ manyN u 34 = ((u.code.take u.code.length).filter (opB 34)).length) := hid (by rw [List.take_length]; exact ⟨rfl, rfl⟩)
    have HLE := hid (fun n t => (show ((u.code.take t).filter (opB n)).length ≤ u.code.length from Nat.le_trans (List.length_filter_le _ _) (by rw [List.length_take]; omega)))
    generalize manyN u 33 = m1 at *
    generalize manyN u 34 = m2 at *
    go_enter Tryz.func16, Tryz.ntmps16
    go_upto_region 1 with fail
    obtain ⟨w1, hw1⟩ : ∃ w1, w1 = w.alloc (oU u ca cc ga gc) := ⟨_, rfl⟩
    rw [← hw1] at HX1 HB
    rw [← hw1]
    clear hw1
    obtain ⟨k0, k1, k2, k3, k4, k5, k6⟩ := box7 HX1.out
    go_upto_region 4 with (first
      | (go_at_call 61; (with_reducible refine (HPL.out _ HB.out).mono ?_); rintro e w2 ⟨rfl, hb⟩; have HB2 := hid (HB.out.step hb); have HX2 := hid (keepBox hb HX1.out); clear hb))
    clear k0 k1 k2 k3 k4 k5 k6
    obtain ⟨k0, k1, k2, k3, k4, k5, k6⟩ := box7 HX2.out
    go_wp2
    go_loopg [6, 7, 8] u.code.length (fun gh s6 s7 s8 wr => ∃ (t a b : Nat), t ≤ u.code.length ∧ gh = u.code.length - t ∧ s8 = .int .i64 t ∧ s6 = .int .i64 a ∧ s7 = .int .i64 b ∧ Hid (a = ((u.code.take t).filter (opB 33)).length ∧ b = ((u.code.take t).filter (opB 34)).length ∧ w2 = wr))
    case atStart => exact ⟨0, 0, 0, Nat.zero_le _, rfl, rfl, rfl, rfl, hid ⟨by simp, by simp, rfl⟩⟩
    case round =>
      obtain ⟨t, a, b, ht, rfl, rfl, rfl, rfl, HK⟩ := hrel
      obtain ⟨-, -, rfl⟩ := HK.out
      have hla : a ≤ u.code.length := by have := HLE.out 33 t; have := HK.out.1; omega
      have hlb : b ≤ u.code.length := by have := HLE.out 34 t; have := HK.out.2.1; omega
      by_cases hlt : t < u.code.length
      · have nt : (t : Int) < (u.code.length : Int) := by omega
        obtain ⟨b2, off, hca, hlt2, c0, c1, c2, c3⟩ := (HM.out.rc.below HB2.out) t hlt
        subst hca
        have H3 := hid (HMS.out 33 t hlt)
        have H4 := hid (HMS.out 34 t hlt)
        generalize u.code[t] = x at *
        cases e33 : (x.op == 33) with
        | true =>
          have e34 : (x.op == 34) = false := by simp at e33; simp [e33]
          rw [e33, if_pos rfl] at H3
          rw [e34, if_neg (by simp)] at H4
          have HK2 : Hid (a + 1 = ((u.code.take (t + 1)).filter (opB 33)).length ∧ b = ((u.code.take (t + 1)).filter (opB 34)).length) := hid ⟨by rw [H3.out, HK.out.1], by rw [H4.out, HK.out.2.1]; rfl⟩
          clear e34
          go_wp2
          go_roundg (u.code.length - (t + 1))
          case measure => omega
          case rel => exact ⟨t + 1, a + 1, b, by omega, rfl, by go_num, by go_num, rfl, hid ⟨HK2.out.1, HK2.out.2, rfl⟩⟩
        | false =>
          rw [e33, if_neg (by simp)] at H3
          cases e34 : (x.op == 34) with
          | true =>
            rw [e34, if_pos rfl] at H4
            have HK2 : Hid (a = ((u.code.take (t + 1)).filter (opB 33)).length ∧ b + 1 = ((u.code.take (t + 1)).filter (opB 34)).length) := hid ⟨by rw [H3.out, HK.out.1]; rfl, by rw [H4.out, HK.out.2.1]⟩
            go_wp2
            go_roundg (u.code.length - (t + 1))
            case measure => omega
            case rel => exact ⟨t + 1, a, b + 1, by omega, rfl, by go_num, rfl, by go_num, hid ⟨HK2.out.1, HK2.out.2, rfl⟩⟩
          | false =>
            rw [e34, if_neg (by simp)] at H4
            have HK2 : Hid (a = ((u.code.take (t + 1)).filter (opB 33)).length ∧ b = ((u.code.take (t + 1)).filter (opB 34)).length) := hid ⟨by rw [H3.out, HK.out.1]; rfl, by rw [H4.out, HK.out.2.1]; rfl⟩
            go_wp2
            go_roundg (u.code.length - (t + 1))
            case measure => omega
            case rel => exact ⟨t + 1, a, b, by omega, rfl, by go_num, rfl, rfl, hid ⟨HK2.out.1, HK2.out.2, rfl⟩⟩
      · obtain rfl : t = u.code.length := by omega
        have nt : ¬ (u.code.length : Int) < (u.code.length : Int) := by omega
        have HE : Hid (a = m1 ∧ b = m2) := hid ⟨by rw [HK.out.1, HFA.out.1], by rw [HK.out.2.1, HFA.out.2]⟩
        go_wp2
        go_ret3
        exact ⟨by rw [← HE.out.1, ← HE.out.2]; rfl, HB2.out⟩
set_option maxRecDepth 100000 in
set_option maxHeartbeats 4000000 in
theorem press31_no (u : UntN) (ca : Option Addr) (cc : Nat) (ga : Option Addr) (gc : Nat) (w : World) (hm : UnM w u ca cc ga gc) (hlc : u.code.length ≤ 1000000) (hlg : u.guards.length ≤ 1000000) (hab : ∀ x ∈ u.code, -9223372036854775808 ≤ x.a ∧ x.a ≤ 9223372036854775807) (hw : writB u = false) :
    Calls Tryz.prog 31 #[vU u ca cc ga gc] w (RetB (vNum (.slice none 0 0) 0 1) w) := by
  have HRT := hid (fun w' (hb : Below w.heap.size w w') => right53 u ca cc ga gc w' (hm.below hb) hlc hlg hab)
  rw [hw] at HRT
  have HM := hid hm
  have HX1 := hid (heapn w (oU u ca cc ga gc) _ rfl)
  have HB1 := hid (bnew w (oU u ca cc ga gc))
  clear hm hab hw
  go_enter Tryz.func31, Tryz.ntmps31
  go_upto_region 1 with fail
  obtain ⟨w2, hw2⟩ : ∃ w2, w2 = (w.alloc (oU u ca cc ga gc)).alloc (oNum (.slice none 0 0) 0 0) := ⟨_, rfl⟩
  have HX2 : Hid (w2.heap[w.heap.size]? = some (oU u ca cc ga gc)) := hid (by rw [hw2]; exact keepBox (bnew _ _) HX1.out)
  have HN2 : Hid (w2.heap[w.heap.size + 1]? = some (oNum (.slice none 0 0) 0 0)) := hid (by rw [hw2]; exact heapn _ _ _ (by simp))
  have HB2 : Hid (Below w.heap.size w w2) := hid (by rw [hw2]; exact HB1.out.step (bnew _ _))
  rw [← hw2]
  clear hw2 HX1 HB1
  have HUX := hid (fun wx (hb : Below w2.heap.size w2 wx) => keepBox hb HX2.out)
  have HUN := hid (fun wx (hb : Below w2.heap.size w2 wx) => keepBox hb HN2.out)
  obtain ⟨k0, k1, k2, k3, k4, k5, k6⟩ := box7 HX2.out
  go_wp2_with (first
    | (go_at_call 53; (with_reducible refine (HRT.out _ HB2.out).mono ?_); rintro e w3 ⟨rfl, hb3⟩; have HB3 := hid hb3; obtain ⟨j0, j1, j2, j3, j4, j5, j6⟩ := box7 (HUX.out _ hb3); obtain ⟨n0, n1, n2⟩ := box3 (HUN.out _ hb3); have f0 := boxF 0 (HUN.out _ hb3); have f1 := boxF 1 (HUN.out _ hb3); have f2 := boxF 2 (HUN.out _ hb3); clear hb3))
  exact bodyPost_ret (v := vNum (.slice none 0 0) 0 1) (results_cell_row rfl _ _ (w.heap.size + 1) 35 _ (0, 0) _ rfl (set3 (HUN.out _ HB3.out) _ _ _) Tryz.underlying35 rfl size35) rfl ⟨rfl, set3_below (HB2.out.step HB3.out) (by omega) _ _ _⟩
set_option maxRecDepth 100000 in
set_option maxHeartbeats 8000000 in
theorem press31_yes (u : UntN) (ca : Option Addr) (cc : Nat) (ga : Option Addr) (gc : Nat) (w : World) (hm : UnM w u ca cc ga gc) (hlc : u.code.length ≤ 1000000) (hlg : u.guards.length ≤ 1000000) (hab : ∀ x ∈ u.code, -9223372036854775808 ≤ x.a ∧ x.a ≤ 9223372036854775807) (hw : writB u = true) :
    Calls Tryz.prog 31 #[vU u ca cc ga gc] w (RetB (vNum (.slice none 0 0) (pressN u : Nat) 0) w) := by
  have HRT := hid (fun w' (hb : Below w.heap.size w w') => right53 u ca cc ga gc w' (hm.below hb) hlc hlg hab)
  rw [hw] at HRT
  have HM := hid hm
  have HX1 := hid (heapn w (oU u ca cc ga gc) _ rfl)
  have HB1 := hid (bnew w (oU u ca cc ga gc))
  have hn6 : u.code.length ≤ 600 := (plain_leads (writ_plain hw)).2.1
  have HLV := hid (fun w' (hb : Below w.heap.size w w') => live58 u ca cc ga gc w' (hm.below hb) (writ_plain hw))
  have HLL : Hid ((liveL u).length = u.code.length) := hid (live_good u).len
  have HRW : Hid (∀ r ∈ liveL u, r.length ≤ 10000) := hid (fun r hr => by
    obtain ⟨t, ht, rfl⟩ := List.getElem_of_mem hr
    have h1 := nodup_sub_len (sorted_nodup ((live_good u).so t)) (fun x hx => (live_good u).un t x hx)
    have h2 := univ_len u
    rw [getD_in ht] at h1
    omega)
  have HNX := hid (fun (t : Nat) (ht : t < u.code.length) p (hp : p ∈ nextsR (u.code.getD t ins0) t) => (show 0 ≤ p ∧ p < (liveL u).length from by rw [HLL.out]; exact bySelf_in (writ_plain hw) ht p ((nexts_mem hw ht p).1 hp)))
  have HBH := hid (fun (t : Nat) (ht : t < u.code.length) (la : Option Addr) (lc : Nat) w' (hb : Below w.heap.size w w') (hl : RdM w' la (liveL u)) => behind81 u (liveL u) t ht hn6 ca cc ga gc la lc w' (hm.rc.below hb) hl HRW.out (HNX.out t ht))
  have HBW := hid (fun (t : Nat) (ht : t < u.code.length) => behindW_len hw ht)
  have HBL := hid (fun t => (show (behindR u (liveL u) t).length ≤ 20000 from by
    have h1 := behTo_len (liveL u) HRW.out (nextsR (u.code.getD t ins0) t)
    have h2 := nextsR_len (u.code.getD t ins0) t
    have h3 : behindR u (liveL u) t = behTo (liveL u) (nextsR (u.code.getD t ins0) t) := rfl
    rw [h3]
    omega))
  have HFIN : Hid (pressN u = pressTo u u.code.length) := hid rfl
  clear hm hab hw
  go_enter Tryz.func31, Tryz.ntmps31
  go_upto_region 1 with fail
  obtain ⟨w2, hw2⟩ : ∃ w2, w2 = (w.alloc (oU u ca cc ga gc)).alloc (oNum (.slice none 0 0) 0 0) := ⟨_, rfl⟩
  have HX2 : Hid (w2.heap[w.heap.size]? = some (oU u ca cc ga gc)) := hid (by rw [hw2]; exact keepBox (bnew _ _) HX1.out)
  have HN2 : Hid (w2.heap[w.heap.size + 1]? = some (oNum (.slice none 0 0) 0 0)) := hid (by rw [hw2]; exact heapn _ _ _ (by simp))
  have HB2 : Hid (Below w.heap.size w w2) := hid (by rw [hw2]; exact HB1.out.step (bnew _ _))
  rw [← hw2]
  clear hw2 HX1 HB1
  have HUX := hid (fun wx (hb : Below w2.heap.size w2 wx) => keepBox hb HX2.out)
  have HUN := hid (fun wx (hb : Below w2.heap.size w2 wx) => keepBox hb HN2.out)
  obtain ⟨k0, k1, k2, k3, k4, k5, k6⟩ := box7 HX2.out
  go_upto_region 5 with (first
    | (go_at_call 53; (with_reducible refine (HRT.out _ HB2.out).mono ?_); rintro e w3 ⟨rfl, hb3⟩; have HB3 := hid hb3; obtain ⟨j0, j1, j2, j3, j4, j5, j6⟩ := box7 (HUX.out _ hb3); obtain ⟨n0, n1, n2⟩ := box3 (HUN.out _ hb3); have f0 := boxF 0 (HUN.out _ hb3); have f1 := boxF 1 (HUN.out _ hb3); have f2 := boxF 2 (HUN.out _ hb3); clear hb3)
    | (go_at_call 58; (with_reducible refine (HLV.out _ (HB2.out.step HB3.out)).mono ?_); rintro e w4 ⟨hb4, la, lc, rfl, hl4⟩; have HB4 := hid (HB3.out.step hb4); have HL4 := hid hl4; clear hb4 hl4))
  clear k0 k1 k2 k3 k4 k5 k6 j0 j1 j2 j3 j4 j5 j6 n0 n1 n2 f0 f1 f2
  rw [HLL.out]
  go_wp2
  go_loopg [5, 6] u.code.length (fun gh s5 s6 wr => ∃ t : Nat, t ≤ u.code.length ∧ gh = u.code.length - t ∧ s6 = .int .i64 t ∧ s5 = .int .i64 (pressTo u t : Nat) ∧ Hid (Below w4.heap.size w4 wr))
  case atStart => exact ⟨0, Nat.zero_le _, rfl, rfl, rfl, hid (Below.refl _ _)⟩
  case round =>
    obtain ⟨t, ht, rfl, rfl, rfl, HK⟩ := hrel
    obtain ⟨k0, k1, k2, k3, k4, k5, k6⟩ := box7 (HUX.out _ (HB4.out.step HK.out))
    by_cases hlt : t < u.code.length
    · have nt : (t : Int) < (u.code.length : Int) := by omega
      have HBT := hid (HBH.out t hlt la lc wr (HB2.out.step (HB4.out.step HK.out)) (HL4.out.below HK.out))
      rw [HLL.out] at HBT
      have HIC := hid (fun wx (hb : Below w2.heap.size w2 wx) => (HM.out.rc.below (HB2.out.step hb)) t hlt)
      have HST : Hid (pressTo u (t + 1) = max (max (pressTo u t) ((liveL u).getD t []).length) (behindW u (liveL u) t).length) := hid (by rw [HBW.out t hlt]; rfl)
      have HBWD : Hid (behindW u (liveL u) t = if 0 ≤ writesI u.code[t] then insS (writesI u.code[t]) (behindR u (liveL u) t) else behindR u (liveL u) t) := hid (by unfold behindW; rw [getD_in hlt])
      have HWR := hid (writes82 u.code[t])
      have HBLT := hid (HBL.out t)
      obtain ⟨lb, lo, hla, hltl, la2, lc2, hc, -⟩ := RdM.row HL4.out (i := t) (by rw [HLL.out]; exact hlt)
      subst hla
      have HCL := hid (fun wx (hb : Below w4.heap.size w4 wx) => cell_later hb hc)
      clear hc
      obtain ⟨b2, off, hca, -⟩ := HIC.out _ (HB4.out.step HK.out)
      subst hca
      generalize u.code[t] = x at *
      generalize writesI x = wi at *
      generalize behindR u (liveL u) t = BR at *
      generalize behindW u (liveL u) t = BW at *
      generalize (liveL u).getD t [] = LT at *
      generalize pressTo u t = P at *
      go_upto_region 11 with (first
        | (go_at_call 81; (with_reducible refine HBT.out.mono ?_); rintro e w5 ⟨hb5, v5, rfl, hv5⟩; have HB5 := hid (HK.out.step hb5); have HV5 := hid hv5; obtain ⟨l0, l1, l2, l3, l4, l5, l6⟩ := box7 (HUX.out _ (HB4.out.step HB5.out)); obtain ⟨b3, o3, e3, hl3, d0, d1, d2, d3⟩ := HIC.out _ (HB4.out.step HB5.out); cases e3; clear hb5 hv5)
        | (go_at_call 82; (with_reducible refine (HWR.out _).mono ?_); rintro e w6 ⟨rfl, hb6⟩; have HB6 := hid (HB5.out.step hb6); have HV6 := hid (HV5.out.below hb6); clear hb6))
      clear k0 k1 k2 k3 k4 k5 k6 l0 l1 l2 l3 l4 l5 l6 d0 d1 d2 d3 hl3
      by_cases hwi : 0 ≤ wi
      case' pos =>
        replace HBWD := hid (HBWD.out.trans (if_pos hwi))
        have HPT := hid (put83 v5 BR wi w6 HV6.out (by have := HBLT.out; omega))
        go_upto_region 13 with (first
          | (go_at_call 83; (with_reducible refine HPT.out.mono ?_); rintro e w7 ⟨hb7, v7, rfl, hv7⟩; have HB7 := hid (HB6.out.step hb7); have HV7 : Hid (RdV w7 v7 BW) := hid (by rw [HBWD.out]; exact hv7); clear hb7 hv7))
      case' neg =>
        replace HBWD := hid (HBWD.out.trans (if_neg hwi))
        have HV7 : Hid (RdV w6 v5 BW) := hid (by rw [HBWD.out]; exact HV6.out)
        have HB7 := HB6
        go_upto_region 13 with fail
      all_goals
        obtain ⟨pa, pc, rfl, -, -, -⟩ := HV7.out.ex
        have hcl := HCL.out _ HB7.out
        have HST2 : Hid (((pressTo u (t + 1) : Nat) : Int) = max (P : Int) (max (LT.length : Int) (BW.length : Int))) := hid (by rw [HST.out]; omega)
        go_wp2
        go_roundg (u.code.length - (t + 1))
        case measure => omega
        case rel => exact ⟨t + 1, by omega, rfl, by go_num, by rw [HST2.out], hid HB7.out⟩
    · obtain rfl : t = u.code.length := by omega
      have nt : ¬ (u.code.length : Int) < (u.code.length : Int) := by omega
      rw [← HFIN.out]
      obtain ⟨n0, n1, n2⟩ := box3 (HUN.out _ (HB4.out.step HK.out))
      have f0 := boxF 0 (HUN.out _ (HB4.out.step HK.out)); have f1 := boxF 1 (HUN.out _ (HB4.out.step HK.out)); have f2 := boxF 2 (HUN.out _ (HB4.out.step HK.out))
      go_wp2
      exact bodyPost_ret (v := vNum (.slice none 0 0) (pressN u : Nat) 0) (results_cell_row rfl _ _ (w.heap.size + 1) 35 _ (0, 0) _ rfl (set3 (HUN.out _ (HB4.out.step HK.out)) _ _ _) Tryz.underlying35 rfl size35) rfl ⟨rfl, set3_below (HB2.out.step (HB4.out.step HK.out)) (by omega) _ _ _⟩
end Go.Proofs.YtgalekifgnecjaaGreat
