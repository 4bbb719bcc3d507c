/- Units with more guards than there may be, however many: none of them is plain. Regs of package regs, for units of few instructions: what is told of its answer. RegsFew, walked. -/
import Derived.Test.YtgalekifgnecjaaGreatD3
import Derived.Deep.RegionHeld3
import Derived.Test.YtgalekifgnecjaaGreatY8
import Derived.Test.YtgalekifgnecjaaGreatY9
import Derived.Test.YtgalekifgnecjaaGreatL4
import Derived.BigQuiet
import Derived.Lib.QuietBelow
namespace Go.Proofs.YtgalekifgnecjaaGreat
open Go.RowKit

open Go.RowKit Go.Shelf
attribute [local go_sem] Oper.semAt_some
set_option maxRecDepth 100000 in
set_option maxHeartbeats 4000000 in
theorem plain174_big (u : UntN) (ca : Option Addr) (cc : Nat) (ga : Option Addr) (gc : Nat) (w : World) (hlc : u.code.length ≤ 1000000) (hg : 40 < u.guards.length) :
    Calls Tryz.prog 174 #[vU u ca cc ga gc] w (RetB (.bool false) w) := by
  have HB := hid ((bnew w (oU u ca cc ga gc)).step (bnew _ (.cells #[.int .i64 u.code.length] 3)))
  have HW1 := hid (fun w => within_any u.code.length 1 600 w)
  have nc : (u.code.length : Int) ≤ 1000000 := by omega
  have d40 : decide ((40 : Int) < (u.guards.length : Int)) = true := decide_eq_true (by omega)
  clear hg
  obtain ⟨b1, hb1⟩ : ∃ b, b = inN u.code.length 1 600 := ⟨_, rfl⟩
  rw [← hb1] at HW1
  clear hb1
  cases b1 with
  | false =>
    go_enter Tryz.func174, Tryz.ntmps174
    go_wp2_with (go_at_call 91; (with_reducible refine (HW1.out _).mono ?_); rintro e w' ⟨rfl, rfl⟩)
    go_ret
    exact ⟨rfl, HB.out⟩
  | true =>
    go_enter Tryz.func174, Tryz.ntmps174
    go_wp2_with (go_at_call 91; (with_reducible refine (HW1.out _).mono ?_); rintro e w' ⟨rfl, rfl⟩)
    go_ret
    exact ⟨rfl, HB.out⟩
theorem reach142_big (u : UntN) (ca : Option Addr) (cc : Nat) (ga : Option Addr) (gc : Nat) (w : World) (hlc : u.code.length ≤ 1000000) (hg : 40 < u.guards.length) :
    Calls Tryz.prog 142 #[vU u ca cc ga gc] w (fun e w' => Below w.heap.size w w' ∧ e = .returned (.slice none 0 0)) := by
  have HB := hid (bnew w (oU u ca cc ga gc))
  have HP := hid (fun w' => plain174_big u ca cc ga gc w' hlc hg)
  clear hg
  go_enter Tryz.func142, Tryz.ntmps142
  go_wp2_with (go_at_call 174; (with_reducible refine (HP.out _).mono ?_); rintro e w' ⟨rfl, hb⟩; have HB2 := hid (HB.out.step hb); clear hb)
  go_ret
  exact ⟨HB2.out, rfl⟩
set_option maxRecDepth 100000 in
set_option maxHeartbeats 8000000 in
theorem plain76_big (u : UntN) (ca : Option Addr) (cc : Nat) (ga : Option Addr) (gc : Nat) (w : World) (hlc : u.code.length ≤ 1000000) (hg : 40 < u.guards.length) :
    Calls Tryz.prog 76 #[vU u ca cc ga gc] w (RetB (.bool false) w) := by
  have HB := hid (bnew w (oU u ca cc ga gc))
  have HRR := hid (fun w' => reach142_big u ca cc ga gc w' hlc hg)
  have HX := hid (heapn w (oU u ca cc ga gc) _ rfl)
  obtain ⟨c1, c2, c3, c4, c5, c6, c7⟩ := box7 HX.out
  clear hg
  by_cases h0 : 0 < u.code.length
  · have n0 : (0 : Int) < (u.code.length : Int) := by omega
    have n1 : (0 : Nat) < u.code.length := h0
    have dn : ((0 : Int) == (u.code.length : Int)) = false := by simp; omega
    go_enter Tryz.func76, Tryz.ntmps76
    go_wp2
    go_region_held3 (fun w' => w'.cell? ⟨w.heap.size, 0, none⟩ = some (.string u.cls) ∧ w'.cell? ⟨w.heap.size, 1, none⟩ = some (.string u.name) ∧ w'.cell? ⟨w.heap.size, 2, none⟩ = some (.int .i64 u.args) ∧ w'.cell? ⟨w.heap.size, 3, none⟩ = some (.int .i64 u.slots) ∧ w'.cell? ⟨w.heap.size, 4, none⟩ = some (.int .i64 u.frame) ∧ w'.cell? ⟨w.heap.size, 5, none⟩ = some (.slice ca u.code.length cc) ∧ w'.cell? ⟨w.heap.size, 6, none⟩ = some (.slice ga u.guards.length gc)) (first | exact ⟨c1, c2, c3, c4, c5, c6, c7⟩ | exact ⟨cell_later hb c1, cell_later hb c2, cell_later hb c3, cell_later hb c4, cell_later hb c5, cell_later hb c6, cell_later hb c7⟩)
      ((go_at_call 142; (with_reducible refine (HRR.out _).mono ?_); rintro e w2 ⟨hb, rfl⟩))
    have HB2 := hid (HB.out.drew.step hb)
    go_wp2
    go_ret
    exact ⟨rfl, HB2.out⟩
  · have e0 : u.code.length = 0 := by omega
    have dn : decide ((0 : Int) < (u.code.length : Int)) = false := by rw [e0]; rfl
    have dn2 : decide (0 < u.code.length) = false := by rw [e0]; rfl
    have dn3 : ¬ (0 : Int) < (u.code.length : Int) := by omega
    clear e0 h0
    go_enter Tryz.func76, Tryz.ntmps76
    go_wp2
    go_quiet (fail)
    go_wp2
    go_ret
    exact ⟨rfl, bdrewN HB.out _⟩
theorem writable42_big (u : UntN) (ca : Option Addr) (cc : Nat) (ga : Option Addr) (gc : Nat) (w : World) (hlc : u.code.length ≤ 1000000) (hg : 40 < u.guards.length) :
    Calls Tryz.prog 42 #[vU u ca cc ga gc] w (RetB (.bool false) w) := by
  have HX1 := hid (heapn w (oU u ca cc ga gc) _ rfl)
  have HB := hid (bnew w (oU u ca cc ga gc))
  have HPL := hid (fun w' => plain76_big u ca cc ga gc w' hlc hg)
  clear hg
  go_enter Tryz.func42, Tryz.ntmps42
  go_wp2_with (go_at_call 76; (with_reducible refine (HPL.out _).mono ?_); rintro e w1 ⟨rfl, hb⟩; have HB1 := hid (HB.out.step hb); clear hb)
  go_ret
  exact ⟨rfl, HB1.out⟩
theorem least24_big (u : UntN) (ca : Option Addr) (cc : Nat) (ga : Option Addr) (gc : Nat) (w : World) (hlc : u.code.length ≤ 1000000) (hg : 40 < u.guards.length) :
    Calls Tryz.prog 24 #[vU u ca cc ga gc] w (RetB (.tuple #[.int .i64 ((0 : Nat) : Int), .int .i64 1]) w) := by
  have HX1 := hid (heapn w (oU u ca cc ga gc) _ rfl)
  have HB := hid (bnew w (oU u ca cc ga gc))
  have HW := hid (fun w' => writable42_big u ca cc ga gc w' hlc hg)
  clear hg
  go_enter Tryz.func24, Tryz.ntmps24
  go_wp2_with (go_at_call 42; (with_reducible refine (HW.out _).mono ?_); rintro e w2 ⟨rfl, hb⟩; have HB2 := hid (HB.out.step hb); clear hb)
  go_ret2
  exact ⟨rfl, HB2.out⟩

open Go.RowKit Go.Shelf
/-- What is told of the unit that is written, and of its homes. -/
structure RegFine (u v : UntN) (k : Nat) (hs ats : List Int) : Prop where
  chk : chkRegs u v hs ats = 0
  sl : v.slots = if (k : Int) < u.slots then (k : Int) else u.slots
  pl : plainB v = true
  tr : u.slots ≤ k → manyN v 33 = 0 ∧ manyN v 34 = 0
  lc : v.code.length ≤ 600
  lg : v.guards.length ≤ 40
  lh : hs.length ≤ 200
  la : ats.length ≤ 600
  vb : ∀ y ∈ v.code, -9223372036854775808 ≤ y.b ∧ y.b ≤ 9223372036854775807
  hb : ∀ x ∈ hs, -9223372036854775808 ≤ x ∧ x ≤ 9223372036854775807
def RegRet (u : UntN) (k : Nat) (w : World) (e : Ending) (w' : World) : Prop :=
  Below w.heap.size w w' ∧ ∃ (v : UntN) (hs ats : List Int) (xa : Option Addr) (xc : Nat) (ya : Option Addr) (yc : Nat) (ha : Option Addr) (hc : Nat) (ta : Option Addr) (tc : Nat), e = .returned (.tuple #[vU v xa xc ya yc, .agg #[.slice ha hs.length hc, .slice ta ats.length tc], .int .i64 0]) ∧
    UnM w' v xa xc ya yc ∧ RdI w' ha hs ∧ RdI w' ta ats ∧ RegFine u v k hs ats
theorem regs_fine (u : UntN) (k : Nat) (ca : Option Addr) (cc : Nat) (ga : Option Addr) (gc : Nat) (w : World) (hm : UnM w u ca cc ga gc) (hw : writB u = true) (hc : u.code.length ≤ 60) (hs : u.slots ≤ 20) (hk : leastN u ≤ k) (hk2 : k ≤ 200)
    (hb : ∀ y ∈ u.code, -9223372036854775808 ≤ y.b ∧ y.b ≤ 9223372036854775807) : Calls Tryz.prog 13 #[vU u ca cc ga gc, .int .i64 k] w (RegRet u k w) := by
  have h1 := least_one u
  have ha := writ_args hw
  have hp := writ_plain hw
  have hpl := plain_leads hp
  obtain ⟨hc6, hcl⟩ := wri_few hw hc hs k
  by_cases hks : (k : Int) < u.slots
  · refine (regs_wri u k ca cc ga gc w hm hw (by omega) hk2 hks hk hc6 hcl).mono fun e w' ⟨h, xa, xc, ya, yc, ha', hc', ta, tc, he, hu, hh, ht⟩ => ⟨h, _, _, _, xa, xc, ya, yc, ha', hc', ta, tc, he, hu, hh, ht, ?_⟩
    have hI := hou_all hw (k : Int)
    refine ⟨regs_stand hw hk (by omega) hc6 hcl, by rw [if_pos hks]; rfl, regU_plain hw hk2 hc6 hcl, fun h => by omega, ?_, ?_, by rw [hI.len]; omega, by rw [(wri_ok k).2.1]; omega, regU_bd hw hk2 hcl hc6 hb, fun x hx => ?_⟩
    · show ((wriL u k).code.map _).length ≤ 600
      rw [List.length_map]; exact hc6
    · show (u.guards.map _).length ≤ 40
      rw [List.length_map]; exact hpl.2.2.1
    · have := hou_bd hw hk2 hcl x hx
      omega
  · refine (regs_same u k ca cc ga gc w hm (by omega) (by omega) hw (by unfold inN; simp; omega) (by omega)).mono fun e w' ⟨h, xa, xc, ya, yc, vh, va, he, hu, hg, hh, ht⟩ => ?_
    obtain ⟨a1, c1, e1, r1, l1, _⟩ := OwnX.rdB hu
    obtain ⟨a2, c2, e2, r2, l2, _⟩ := OwnX.rdB hg
    injection e1 with e11 _ e12
    injection e2 with e21 _ e22
    subst e11; subst e12; subst e21; subst e22
    obtain ⟨a3, c3, rfl, _⟩ := hh.rd
    obtain ⟨a4, c4, rfl, _⟩ := ht.rd
    refine ⟨h, u, firstNs u.slots.toNat, firstNs u.code.length, xa, xc, ya, yc, a3, c3, a4, c4, he, ⟨rdC_iff.1 r1, rdD_iff.1 r2, l1, l2⟩, hh.rdR, ht.rdR, ?_⟩
    have hl : ∀ n, (firstNs n).length = n := fun n => by unfold firstNs; simp
    refine ⟨id_stand hw, by rw [if_neg hks], hp, fun _ => writ_many hw, by omega, by omega, by rw [hl]; omega, by rw [hl]; omega, hb, fun x hx => ?_⟩
    unfold firstNs at hx
    obtain ⟨i, hi, rfl⟩ := List.mem_map.1 hx
    have := List.mem_range.1 hi
    show _ ≤ (i : Int) ∧ (i : Int) ≤ _
    omega

open Go.RowKit Go.Shelf
attribute [local go_sem] Oper.semAt_some
attribute [local irreducible] wpStill
set_option maxRecDepth 100000 in
set_option maxHeartbeats 40000000 in
theorem regsFew_any (u : UntN) (more : Int) (hmb : 0 ≤ more ∧ more ≤ 255) (ca : Option Addr) (cc : Nat) (ga : Option Addr) (gc : Nat) (w : World) (hm : UnM w u ca cc ga gc) (hub : ∀ y ∈ u.code, -9223372036854775808 ≤ y.b ∧ y.b ≤ 9223372036854775807) :
    Calls Tryz.prog 7 #[vU u ca cc ga gc, .int .u8 more] w (RetB (.bool true) w) := by
  have HM := hid hm; clear hm
  have HB0 := hid (bnew w (oU u ca cc ga gc))
  have HX0 := hid (heapn w (oU u ca cc ga gc) _ rfl)
  obtain ⟨wa, hwa⟩ : ∃ wa, wa = w.alloc (oU u ca cc ga gc) := ⟨_, rfl⟩
  rw [← hwa] at HB0 HX0
  go_enter Tryz.func7, Tryz.ntmps7
  go_upto_region 1 with fail
  rw [← hwa]
  clear hwa
  obtain ⟨k0, k1, k2, k3, k4, k5, k6⟩ := box7 HX0.out
  by_cases h60 : (60 : Int) < (u.code.length : Int)
  · go_wp2_with (first
      | (go_at_call 12; (with_reducible refine (sanity_any _).mono ?_); rintro e w9 ⟨rfl, hb⟩; have HBZ := hid (HB0.out.step hb); clear hb))
    go_ret
    exact ⟨rfl, HBZ.out⟩
  by_cases h20 : (20 : Int) < u.slots
  · go_wp2_with (first
      | (go_at_call 12; (with_reducible refine (sanity_any _).mono ?_); rintro e w9 ⟨rfl, hb⟩; have HBZ := hid (HB0.out.step hb); clear hb))
    go_ret
    exact ⟨rfl, HBZ.out⟩
  go_upto_region 3 with fail
  cases hw : writB u with
  | false =>
    have HLE : Hid (∀ W (_ : Below w.heap.size w W), Calls Tryz.prog 24 #[vU u ca cc ga gc] W (RetB (.tuple #[.int .i64 ((0 : Nat) : Int), .int .i64 1]) W)) := hid (fun W hb => by
      by_cases hg : 40 < u.guards.length
      · exact least24_big u ca cc ga gc W (by omega) hg
      · have h := leastFn_any u ca cc ga gc W (HM.out.below hb) (by omega) (by omega)
        rw [hw] at h
        exact h)
    clear hw
    go_wp2_with (first
      | (go_at_call 24; (with_reducible refine (HLE.out _ HB0.out).mono ?_); rintro e w3 ⟨rfl, hb⟩; have HB3 := hid (HB0.out.step hb); clear hb)
      | (go_at_call 12; (with_reducible refine (sanity_any _).mono ?_); rintro e w9 ⟨rfl, hb⟩; have HBZ := hid (HB3.out.step hb); clear hb))
    go_ret
    exact ⟨rfl, HBZ.out⟩
  | true =>
  have HWR := hid hw
  have hl1 := least_one u
  have hle := least_le hw
  have hpr := press_le hw
  have hma := many_args hw
  have har := writ_args hw
  have hmc := manyL_cols (clashL u) u.slots.toNat
  have hpg := (plain_leads (writ_plain hw)).2.2.1
  have HUB := hid hub
  obtain ⟨l0, hl0⟩ : ∃ l, l = leastN u := ⟨_, rfl⟩
  obtain ⟨p0, hp0⟩ : ∃ p, p = pressN u := ⟨_, rfl⟩
  obtain ⟨mc, hmc0⟩ : ∃ m, m = manyL (colsTo (clashL u) u.slots.toNat) := ⟨_, rfl⟩
  have HLE : Hid (∀ W (_ : Below w.heap.size w W), Calls Tryz.prog 24 #[vU u ca cc ga gc] W (RetB (.tuple #[.int .i64 (l0 : Int), .int .i64 0]) W)) := hid (fun W hb => by
    have h := leastFn_any u ca cc ga gc W (HM.out.below hb) (by omega) (by omega)
    rw [hw] at h
    rw [hl0]
    exact h)
  have HPR : Hid (∀ W (_ : Below w.heap.size w W), Calls Tryz.prog 26 #[vU u ca cc ga gc] W (RetB (.tuple #[.int .i64 (p0 : Int), .int .i64 0]) W)) := hid (fun W hb => by
    have h := press_any u ca cc ga gc W (HM.out.below hb) (by omega) (by omega)
    rw [hw] at h
    rw [hp0]
    exact h)
  have HCO := hid (fun W (hb : Below w.heap.size w W) => colours_yes u ca cc ga gc W (HM.out.below hb) (by omega) (by omega) hw)
  obtain ⟨K, hK⟩ : ∃ K : Nat, (K : Int) = (l0 : Int) + more % (22 - (l0 : Int)) := ⟨((l0 : Int) + more % (22 - (l0 : Int))).toNat, by have := Int.emod_nonneg more (show (22 - (l0 : Int)) ≠ 0 by omega); omega⟩
  have hKb : l0 ≤ K ∧ K ≤ 21 := by
    have h1 := Int.emod_nonneg more (show (22 - (l0 : Int)) ≠ 0 by omega)
    have h2 := Int.emod_lt_of_pos more (show 0 < (22 - (l0 : Int)) by omega)
    omega
  have HRG := hid (fun W (hb : Below w.heap.size w W) => regs_fine u K ca cc ga gc W (HM.out.below hb) hw (by omega) (by omega) (by omega) (by omega) HUB.out)
  rw [← hmc0] at HCO hma hmc
  rw [← hl0] at hle hl1
  rw [← hp0] at hpr
  clear hl0 hp0 hmc0 hw hub HUB
  have hif : (if (1 : Int) < u.slots then u.slots else 1) = u.slots := by split <;> omega
  have HKE : Hid (wrap64 ((l0 : Int) + more % (22 - min 21 (l0 : Int))) = (K : Int)) := hid (by rw [show min 21 (l0 : Int) = l0 by omega, ← hK]; exact IntWalk.wrap64_in _ (by omega))
  have a1 : ¬ u.slots < (l0 : Int) := by omega
  have a2 : ¬ u.slots < (p0 : Int) := by omega
  have a3 : ¬ u.slots < mc := by omega
  have a4 : ¬ mc < u.args := by omega
  go_upto_region 8 with (first
    | (go_at_call 24; (with_reducible refine (HLE.out _ HB0.out).mono ?_); rintro e w3 ⟨rfl, hb⟩; have HB3 := hid (HB0.out.step hb); have HX3 := hid (keepBox hb HX0.out); obtain ⟨j0, j1, j2, j3, j4, j5, j6⟩ := box7 HX3.out; clear hb)
    | (go_at_call 26; (with_reducible refine (HPR.out _ HB3.out).mono ?_); rintro e w4 ⟨rfl, hb⟩; have HB4 := hid (HB3.out.step hb); have HX4 := hid (keepBox hb HX3.out); obtain ⟨i0, i1, i2, i3, i4, i5, i6⟩ := box7 HX4.out; clear hb)
    | (go_at_call 20; (with_reducible refine (HCO.out _ HB4.out).mono ?_); rintro e w5 ⟨hb, vc, rfl, _⟩; have HB5 := hid (HB4.out.step hb); have HX5 := hid (keepBox hb HX4.out); clear hb))
  clear k0 k1 k2 k3 k4 k5 k6 j0 j1 j2 j3 j4 j5 j6 i0 i1 i2 i3 i4 i5 i6
  obtain ⟨k0, k1, k2, k3, k4, k5, k6⟩ := box7 HX5.out
  go_upto_region 11 with fail
  clear a1 a2 a3 a4 hif hma hmc hpr hK
  go_upto_region 12 with (first
    | (rw [HKE.out]; go_at_call 13; (with_reducible refine (HRG.out _ HB5.out).mono ?_); rintro e w6 ⟨hb, v, hs, ats, xa, xc, ya, yc, ha, hc, ta, tc, rfl, mv, mh, mt, hfine⟩; have HB6 := hid (HB5.out.step hb); have HX6 := hid (keepBox hb HX5.out); have HMV := hid mv; have HMH := hid mh; have HMT := hid mt; have HF := hid hfine; clear hb mv mh mt hfine))
  clear k0 k1 k2 k3 k4 k5 k6
  obtain ⟨bv, hbv⟩ : ∃ b, b = w6.heap.size := ⟨_, rfl⟩
  obtain ⟨wb, hwb⟩ : ∃ wb, wb = (w6.alloc (oU v xa xc ya yc)).alloc (.cells #[.slice ha hs.length hc, .slice ta ats.length tc] 30) := ⟨_, rfl⟩
  have HBB : Hid (Below w6.heap.size w6 wb) := hid (by rw [hwb]; exact (bnew _ _).step (bnew _ _))
  have HXV : Hid (wb.heap[bv]? = some (oU v xa xc ya yc)) := hid (by rw [hwb, hbv]; exact keepBox (bnew _ _) (heapn _ _ _ rfl))
  have HXH : Hid (wb.heap[bv + 1]? = some (.cells #[.slice ha hs.length hc, .slice ta ats.length tc] 30)) := hid (by rw [hwb, hbv]; exact heapn _ _ _ (by simp))
  rw [← hbv, ← hwb]
  clear hwb hbv
  have HBW := hid (HB6.out.step HBB.out)
  have HXU := hid (keepBox HBB.out HX6.out)
  have hsl := HF.out.sl
  have HCK : Hid (∀ W (_ : Below w6.heap.size w6 W), Calls Tryz.prog 18 #[vU u ca cc ga gc, vU v xa xc ya yc, .agg #[.slice ha hs.length hc, .slice ta ats.length tc]] W (RetB (.int .i64 0) W)) := hid (fun W hb => by
    have h := checkRegs_any u v hs ats ca cc ga gc xa xc ya yc ha hc ta tc W (HM.out.below (HB6.out.step hb)) (HMV.out.below hb) (HMH.out.below hb) (HMT.out.below hb) (by omega) (by omega) (by have := HF.out.lh; omega) (by have := HF.out.la; omega) (by have := HF.out.lc; omega) (by have := HF.out.lg; omega) HF.out.vb HF.out.hb
    rw [HF.out.chk] at h
    exact h)
  obtain ⟨t1, ht1⟩ : ∃ t, t = manyN v 33 := ⟨_, rfl⟩
  obtain ⟨t2, ht2⟩ : ∃ t, t = manyN v 34 := ⟨_, rfl⟩
  have HTR : Hid (∀ W (_ : Below w6.heap.size w6 W), Calls Tryz.prog 28 #[vU v xa xc ya yc] W (RetB (.tuple #[.int .i64 (t1 : Int), .int .i64 (t2 : Int), .int .i64 0]) W)) := hid (fun W hb => by
    have h := traffic_any v xa xc ya yc W (HMV.out.below hb) (by have := HF.out.lc; omega) (by have := HF.out.lg; omega)
    rw [HF.out.pl, if_pos rfl, if_pos rfl, if_pos rfl] at h
    rw [ht1, ht2]
    exact h)
  have htr : u.slots ≤ (K : Int) → t1 = 0 ∧ t2 = 0 := fun h => by rw [ht1, ht2]; exact HF.out.tr h
  clear ht1 ht2
  obtain ⟨u0, u1, u2, u3, u4, u5, u6⟩ := box7 HXU.out
  obtain ⟨v0, v1, v2, v3, v4, v5, v6⟩ := box7 HXV.out
  obtain ⟨h0, h1, _, _⟩ := box2 HXH.out
  by_cases hks : (K : Int) < u.slots
  · rw [if_pos hks] at hsl
    have c1 : ¬ max (K : Int) u.slots < v.slots := by omega
    have c2 : ¬ (K : Int) < v.slots := by omega
    clear hsl
    go_wp2_with (first
      | (go_at_call 18; (with_reducible refine (HCK.out _ HBB.out).mono ?_); rintro e w7 ⟨rfl, hb⟩; have HB7 := hid (HBB.out.step hb); obtain ⟨i0, i1, i2, i3, i4, i5, i6⟩ := box7 (keepBox hb HXV.out); clear hb)
      | (go_at_call 28; (with_reducible refine (HTR.out _ HB7.out).mono ?_); rintro e w8 ⟨rfl, hb⟩; have HB8 := hid (HB7.out.step hb); have y3 := cell_later (HB8.out) (box7 HX6.out).2.2.2.1; clear hb)
      | (go_at_call 12; (with_reducible refine (sanity_any _).mono ?_); rintro e w9 ⟨rfl, hb⟩; have HB9 := hid (HB8.out.step hb); have z3 := cell_later (HB9.out) (box7 HX6.out).2.2.2.1; clear hb))
    go_ret
    exact ⟨rfl, HB6.out.step HB9.out⟩
  · rw [if_neg hks] at hsl
    obtain ⟨rfl, rfl⟩ := htr (by omega)
    have c1 : ¬ max (K : Int) u.slots < v.slots := by omega
    clear hsl
    go_wp2_with (first
      | (go_at_call 18; (with_reducible refine (HCK.out _ HBB.out).mono ?_); rintro e w7 ⟨rfl, hb⟩; have HB7 := hid (HBB.out.step hb); obtain ⟨i0, i1, i2, i3, i4, i5, i6⟩ := box7 (keepBox hb HXV.out); clear hb)
      | (go_at_call 28; (with_reducible refine (HTR.out _ HB7.out).mono ?_); rintro e w8 ⟨rfl, hb⟩; have HB8 := hid (HB7.out.step hb); clear hb)
      | (go_at_call 12; (with_reducible refine (sanity_any _).mono ?_); rintro e w9 ⟨rfl, hb⟩; have HB9 := hid (HB8.out.step hb); have z3 := cell_later (HB9.out) (box7 HX6.out).2.2.2.1; clear hb))
    go_ret
    exact ⟨rfl, HB6.out.step HB9.out⟩
end Go.Proofs.YtgalekifgnecjaaGreat
