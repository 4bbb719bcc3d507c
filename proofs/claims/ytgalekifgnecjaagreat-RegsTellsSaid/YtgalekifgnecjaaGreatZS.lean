/- RegsTells, walked. -/
import Derived.Test.YtgalekifgnecjaaGreatZQ
import Derived.Test.YtgalekifgnecjaaGreatL4
import Derived.BigQuiet
namespace Go.Proofs.YtgalekifgnecjaaGreat
open Go.RowKit Go.Shelf
attribute [local go_sem] Oper.semAt_some
attribute [local irreducible] wpStill
theorem few_lenT {u : UntN} (h : fewB u = true) : u.code.length ≤ 610 ∧ u.guards.length ≤ 50 := by
  unfold fewB at h
  simp at h
  omega
theorem clash_len {u : UntN} (hw : writB u = true) : (clashL u).length ≤ 1000000 := by
  have hg := clashL_good hw
  have ha := writ_args hw
  exact sortedP_len hg.1 (fun p hp => by have h2 := hg.2 p hp; unfold inK; omega)
theorem alloc_at {w : World} {o : Obj} {b : Nat} (h : b = w.heap.size) : (w.alloc o).heap[b]? = some o := heapn _ _ _ h
set_option maxRecDepth 100000 in
set_option maxHeartbeats 20000000 in
theorem tells_any (u : UntN) (ca : Option Addr) (cc : Nat) (ga : Option Addr) (gc : Nat) (w : World) (hm : UnM w u ca cc ga gc) (hab : ∀ x ∈ u.code, -9223372036854775808 ≤ x.a ∧ x.a ≤ 9223372036854775807) :
    Calls Tryz.prog 8 #[vU u ca cc ga gc] w (RetB (.bool true) w) := by
  have HF1 := hid (fun w => few_any u ca cc ga gc w)
  have HM := hid hm
  have HX1 := hid (heapn w (oU u ca cc ga gc) _ rfl)
  have HB1 := hid (bnew w (oU u ca cc ga gc))
  have HAB := hid hab
  clear hm hab
  go_enter Tryz.func8, Tryz.ntmps8
  go_upto_region 1 with fail
  obtain ⟨w1, hw1⟩ : ∃ w1, w1 = w.alloc (oU u ca cc ga gc) := ⟨_, rfl⟩
  rw [← hw1] at HX1 HB1
  rw [← hw1]
  clear hw1
  have HUX := hid (fun wx (hb : Below w1.heap.size w1 wx) => keepBox hb HX1.out)
  obtain ⟨k0, k1, k2, k3, k4, k5, k6⟩ := box7 HX1.out
  cases e1 : fewB u with
  | false =>
    rw [e1] at HF1
    clear e1
    go_wp2_with (first
      | (go_at_call 11; (with_reducible refine (HF1.out _).mono ?_); rintro e w2 ⟨rfl, hb⟩; have HB2 := hid hb; clear hb)
      | (go_at_call 12; (with_reducible refine (sanity_any _).mono ?_); rintro e w9 ⟨rfl, hb⟩; have HBZ := hid (HB1.out.step (HB2.out.step hb)); clear hb))
    go_ret
    exact ⟨rfl, HBZ.out⟩
  | true =>
  obtain ⟨hl1, hl2⟩ := few_lenT e1
  rw [e1] at HF1
  clear e1
  have hlc : u.code.length ≤ 1000000 := by omega
  have hlg : u.guards.length ≤ 1000000 := by omega
  have HTA := hid (fun W (hb : Below w.heap.size w W) => traffic_any u ca cc ga gc W (HM.out.below hb) hlc hlg)
  have HTR := hid (fun W (hb : Below w.heap.size w W) => traffic16 u ca cc ga gc W (HM.out.below hb) hlc hlg)
  obtain ⟨t1, ht1⟩ : ∃ t : Nat, t = (if plainB u = true then manyN u 33 else 0) := ⟨_, rfl⟩
  obtain ⟨t2, ht2⟩ : ∃ t : Nat, t = (if plainB u = true then manyN u 34 else 0) := ⟨_, rfl⟩
  obtain ⟨t3, ht3⟩ : ∃ t : Int, t = (if plainB u = true then 0 else 1) := ⟨_, rfl⟩
  rw [← ht1, ← ht2, ← ht3] at HTA HTR
  clear ht1 ht2 ht3
  have HLA := hid (fun W (hb : Below w.heap.size w W) => leastFn_any u ca cc ga gc W (HM.out.below hb) hlc hlg)
  have HPA := hid (fun W (hb : Below w.heap.size w W) => press_any u ca cc ga gc W (HM.out.below hb) hlc hlg)
  have HGA := hid (fun W (hb : Below w.heap.size w W) => groupsFn_any u ca cc ga gc W (HM.out.below hb) hlc hlg)
  cases hw : writB u with
  | true =>
    have HGY := hid (fun W (hb : Below w.heap.size w W) => (HGA.out W hb).mono (R' := fun e w' => Below W.heap.size W w' ∧ ∃ g, e = .returned (.tuple #[.slice (some ⟨g, 0, none⟩) u.code.length u.code.length, .int .i64 0]) ∧ BI w' g (firstsL u.code)) fun e w' h => by
      rw [hw, if_pos rfl] at h
      obtain ⟨h1, g, h2, h3, _⟩ := h
      exact ⟨h1, g, h2, h3⟩)
    have HGR := hid (fun W (hb : Below w.heap.size w W) => groups30_yes u ca cc ga gc W (HM.out.below hb) hlc hlg HAB.out hw)
    have HLR := hid (fun W (hb : Below w.heap.size w W) => least14_yes u ca cc ga gc W (HM.out.below hb) hlc hlg HAB.out hw)
    have HPR := hid (fun W (hb : Below w.heap.size w W) => press31_yes u ca cc ga gc W (HM.out.below hb) hlc hlg HAB.out hw)
    have HCA := hid (fun W (hb : Below w.heap.size w W) => clashesFn_yes u ca cc ga gc W (HM.out.below hb) hlc hlg hw)
    have HCR := hid (fun W (hb : Below w.heap.size w W) => clashes32_yes u ca cc ga gc W (HM.out.below hb) hlc hlg HAB.out hw)
    have HKA := hid (fun W (hb : Below w.heap.size w W) => colours_yes u ca cc ga gc W (HM.out.below hb) hlc hlg hw)
    have HKR := hid (fun W (hb : Below w.heap.size w W) => colours33_yes u ca cc ga gc W (HM.out.below hb) hlc hlg HAB.out hw)
    have HFL : Hid ((firstsL u.code).length = u.code.length) := hid (fsTo_length _ _)
    have HCL : Hid ((clashL u).length ≤ 1000000) := hid (clash_len hw)
    have HCC : Hid ((colsI (clashL u) u.slots.toNat).length ≤ 1000000) := hid (by rw [colsI_length]; have := writ_args hw; omega)
    rw [hw, if_pos rfl, if_pos rfl] at HLA HPA
    clear hw HGA
    generalize leastN u = ln at *
    generalize pressN u = pn at *
    generalize manyL (colsTo (clashL u) u.slots.toNat) = mn at *
    generalize colsI (clashL u) u.slots.toNat = CO at *
    generalize clashL u = CL at *
    generalize firstsL u.code = FS at *
    go_upto_region 5 with (first
      | (go_at_call 11; (with_reducible refine (HF1.out _).mono ?_); rintro e w2 ⟨rfl, hb⟩; have HW2 := hid hb; obtain ⟨m0, m1, m2, m3, m4, m5, m6⟩ := box7 (HUX.out _ hb); clear hb)
      | (go_at_call 29; (with_reducible refine (HGY.out _ (HB1.out.step HW2.out)).mono ?_); rintro e w3 ⟨hb, g, rfl, hbi⟩; have HW3 := hid (HW2.out.step hb); have HG3 := hid (fun wx (hb : Below w3.heap.size w3 wx) => (hbi.below hb).rd); obtain ⟨l0, l1, l2, l3, l4, l5, l6⟩ := box7 (HUX.out _ HW3.out); clear hb hbi)
      | (go_at_call 30; (with_reducible refine (HGR.out _ (HB1.out.step HW3.out)).mono ?_); rintro e w4 ⟨hb, gr, rfl, hbi⟩; have HW4 := hid (HW3.out.step hb); have HG4 := hid (fun wx (hb : Below w4.heap.size w4 wx) => (hbi.below hb).rd); have HG3 := hid (fun wx (hx : Below w4.heap.size w4 wx) => HG3.out wx (hb.step hx)); clear hb hbi))
    clear k0 k1 k2 k3 k4 k5 k6 l0 l1 l2 l3 l4 l5 l6 m0 m1 m2 m3 m4 m5 m6
    obtain ⟨w5, hw5⟩ : ∃ W, W = w4.alloc (oNum (.slice (some ⟨gr, 0, none⟩) u.code.length u.code.length) 0 0) := ⟨_, rfl⟩
    obtain ⟨b5, hb5⟩ : ∃ b, b = w4.heap.size := ⟨_, rfl⟩
    have HW5 : Hid (Below w1.heap.size w1 w5) := hid (by rw [hw5]; exact HW4.out.step (bnew _ _))
    have HN50 : Hid (w5.heap[b5]? = some (oNum (.slice (some ⟨gr, 0, none⟩) u.code.length u.code.length) 0 0)) := hid (by rw [hw5]; exact alloc_at hb5)
    have HN5 := hid (fun wx (hb : Below w5.heap.size w5 wx) => keepBox hb HN50.out)
    have HG3 := hid (fun wx (hx : Below w5.heap.size w5 wx) => HG3.out wx (Below.step (w := w4) (by rw [hw5]; exact bnew _ _) hx))
    have HG4 := hid (fun wx (hx : Below w5.heap.size w5 wx) => HG4.out wx (Below.step (w := w4) (by rw [hw5]; exact bnew _ _) hx))
    rw [← hw5, ← hb5]
    clear hw5 hb5
    obtain ⟨k0, k1, k2, k3, k4, k5, k6⟩ := box7 (HUX.out _ HW5.out)
    go_upto_region 7 with (first
      | (go_at_call 24; (with_reducible refine (HLA.out _ (HB1.out.step HW5.out)).mono ?_); rintro e w6 ⟨rfl, hb⟩; have HW6 := hid (HW5.out.step hb); have HC6 := hid hb; obtain ⟨l0, l1, l2, l3, l4, l5, l6⟩ := box7 (HUX.out _ HW6.out); clear hb)
      | (go_at_call 14; (with_reducible refine (HLR.out _ (HB1.out.step HW6.out)).mono ?_); rintro e w7 ⟨rfl, hb⟩; have HW7 := hid (HW6.out.step hb); have HC7 := hid (HC6.out.step hb); clear hb))
    clear k0 k1 k2 k3 k4 k5 k6 l0 l1 l2 l3 l4 l5 l6
    have HG3 := hid (fun wx (hx : Below w7.heap.size w7 wx) => HG3.out wx (HC7.out.step hx))
    have HG4 := hid (fun wx (hx : Below w7.heap.size w7 wx) => HG4.out wx (HC7.out.step hx))
    have HN5 := hid (fun wx (hx : Below w7.heap.size w7 wx) => HN5.out wx (HC7.out.step hx))
    obtain ⟨w8, hw8⟩ : ∃ W, W = w7.alloc (oNum (.slice none 0 0) (ln : Nat) 0) := ⟨_, rfl⟩
    obtain ⟨b8, hb8⟩ : ∃ b, b = w7.heap.size := ⟨_, rfl⟩
    have HW8 : Hid (Below w1.heap.size w1 w8) := hid (by rw [hw8]; exact HW7.out.step (bnew _ _))
    have HN80 : Hid (w8.heap[b8]? = some (oNum (.slice none 0 0) (ln : Nat) 0)) := hid (by rw [hw8]; exact alloc_at hb8)
    have HN8 := hid (fun wx (hb : Below w8.heap.size w8 wx) => keepBox hb HN80.out)
    have HG3 := hid (fun wx (hx : Below w8.heap.size w8 wx) => HG3.out wx (Below.step (w := w7) (by rw [hw8]; exact bnew _ _) hx))
    have HG4 := hid (fun wx (hx : Below w8.heap.size w8 wx) => HG4.out wx (Below.step (w := w7) (by rw [hw8]; exact bnew _ _) hx))
    have HN5 := hid (fun wx (hx : Below w8.heap.size w8 wx) => HN5.out wx (Below.step (w := w7) (by rw [hw8]; exact bnew _ _) hx))
    rw [← hw8, ← hb8]
    clear hw8 hb8
    obtain ⟨k0, k1, k2, k3, k4, k5, k6⟩ := box7 (HUX.out _ HW8.out)
    go_upto_region 9 with (first
      | (go_at_call 26; (with_reducible refine (HPA.out _ (HB1.out.step HW8.out)).mono ?_); rintro e w6 ⟨rfl, hb⟩; have HW9 := hid (HW8.out.step hb); have HC6 := hid hb; obtain ⟨l0, l1, l2, l3, l4, l5, l6⟩ := box7 (HUX.out _ HW9.out); clear hb)
      | (go_at_call 31; (with_reducible refine (HPR.out _ (HB1.out.step HW9.out)).mono ?_); rintro e w7 ⟨rfl, hb⟩; have HWb := hid (HW9.out.step hb); have HC7 := hid (HC6.out.step hb); clear hb))
    clear k0 k1 k2 k3 k4 k5 k6 l0 l1 l2 l3 l4 l5 l6
    have HG3 := hid (fun wx (hx : Below w7.heap.size w7 wx) => HG3.out wx (HC7.out.step hx))
    have HG4 := hid (fun wx (hx : Below w7.heap.size w7 wx) => HG4.out wx (HC7.out.step hx))
    have HN5 := hid (fun wx (hx : Below w7.heap.size w7 wx) => HN5.out wx (HC7.out.step hx))
    have HN8 := hid (fun wx (hx : Below w7.heap.size w7 wx) => HN8.out wx (HC7.out.step hx))
    obtain ⟨wc, hwc⟩ : ∃ W, W = w7.alloc (oNum (.slice none 0 0) (pn : Nat) 0) := ⟨_, rfl⟩
    obtain ⟨b11, hb11⟩ : ∃ b, b = w7.heap.size := ⟨_, rfl⟩
    have HWc : Hid (Below w1.heap.size w1 wc) := hid (by rw [hwc]; exact HWb.out.step (bnew _ _))
    have HN110 : Hid (wc.heap[b11]? = some (oNum (.slice none 0 0) (pn : Nat) 0)) := hid (by rw [hwc]; exact alloc_at hb11)
    have HN11 := hid (fun wx (hb : Below wc.heap.size wc wx) => keepBox hb HN110.out)
    have HG3 := hid (fun wx (hx : Below wc.heap.size wc wx) => HG3.out wx (Below.step (w := w7) (by rw [hwc]; exact bnew _ _) hx))
    have HG4 := hid (fun wx (hx : Below wc.heap.size wc wx) => HG4.out wx (Below.step (w := w7) (by rw [hwc]; exact bnew _ _) hx))
    have HN5 := hid (fun wx (hx : Below wc.heap.size wc wx) => HN5.out wx (Below.step (w := w7) (by rw [hwc]; exact bnew _ _) hx))
    have HN8 := hid (fun wx (hx : Below wc.heap.size wc wx) => HN8.out wx (Below.step (w := w7) (by rw [hwc]; exact bnew _ _) hx))
    rw [← hwc, ← hb11]
    clear hwc hb11
    obtain ⟨k0, k1, k2, k3, k4, k5, k6⟩ := box7 (HUX.out _ HWc.out)
    go_upto_region 11 with (first
      | (go_at_call 19; (with_reducible refine (HCA.out _ (HB1.out.step HWc.out)).mono ?_); rintro e w9 ⟨hb, v9, rfl, ho9⟩; obtain ⟨qa, qc, rfl, hrq⟩ := ho9.rd; have HWd := hid (HWc.out.step hb); have HQ9 := hid (fun wx (hx : Below w9.heap.size w9 wx) => hrq.below hx); obtain ⟨l0, l1, l2, l3, l4, l5, l6⟩ := box7 (HUX.out _ HWd.out); have HC6 := hid hb; clear hb ho9 hrq)
      | (go_at_call 32; (with_reducible refine (HCR.out _ (HB1.out.step HWd.out)).mono ?_); rintro e wA ⟨hb, pa, pc, rfl, hrp⟩; have HWe := hid (HWd.out.step hb); have HPA2 := hid (fun wx (hx : Below wA.heap.size wA wx) => hrp.below hx); have HQ9 := hid (fun wx (hx : Below wA.heap.size wA wx) => HQ9.out wx (hb.step hx)); have HC7 := hid (HC6.out.step hb); clear hb hrp))
    clear k0 k1 k2 k3 k4 k5 k6 l0 l1 l2 l3 l4 l5 l6
    have HG3 := hid (fun wx (hx : Below wA.heap.size wA wx) => HG3.out wx (HC7.out.step hx))
    have HG4 := hid (fun wx (hx : Below wA.heap.size wA wx) => HG4.out wx (HC7.out.step hx))
    have HN5 := hid (fun wx (hx : Below wA.heap.size wA wx) => HN5.out wx (HC7.out.step hx))
    have HN8 := hid (fun wx (hx : Below wA.heap.size wA wx) => HN8.out wx (HC7.out.step hx))
    have HN11 := hid (fun wx (hx : Below wA.heap.size wA wx) => HN11.out wx (HC7.out.step hx))
    obtain ⟨wf, hwf⟩ : ∃ W, W = wA.alloc (oPrs (.slice pa CL.length pc) 0) := ⟨_, rfl⟩
    obtain ⟨b14, hb14⟩ : ∃ b, b = wA.heap.size := ⟨_, rfl⟩
    have HWf : Hid (Below w1.heap.size w1 wf) := hid (by rw [hwf]; exact HWe.out.step (bnew _ _))
    have HN140 : Hid (wf.heap[b14]? = some (oPrs (.slice pa CL.length pc) 0)) := hid (by rw [hwf]; exact alloc_at hb14)
    have HN14 := hid (fun wx (hb : Below wf.heap.size wf wx) => keepBox hb HN140.out)
    have HG3 := hid (fun wx (hx : Below wf.heap.size wf wx) => HG3.out wx (Below.step (w := wA) (by rw [hwf]; exact bnew _ _) hx))
    have HG4 := hid (fun wx (hx : Below wf.heap.size wf wx) => HG4.out wx (Below.step (w := wA) (by rw [hwf]; exact bnew _ _) hx))
    have HN5 := hid (fun wx (hx : Below wf.heap.size wf wx) => HN5.out wx (Below.step (w := wA) (by rw [hwf]; exact bnew _ _) hx))
    have HN8 := hid (fun wx (hx : Below wf.heap.size wf wx) => HN8.out wx (Below.step (w := wA) (by rw [hwf]; exact bnew _ _) hx))
    have HN11 := hid (fun wx (hx : Below wf.heap.size wf wx) => HN11.out wx (Below.step (w := wA) (by rw [hwf]; exact bnew _ _) hx))
    have HQ9 := hid (fun wx (hx : Below wf.heap.size wf wx) => HQ9.out wx (Below.step (w := wA) (by rw [hwf]; exact bnew _ _) hx))
    have HPA2 := hid (fun wx (hx : Below wf.heap.size wf wx) => HPA2.out wx (Below.step (w := wA) (by rw [hwf]; exact bnew _ _) hx))
    rw [← hwf, ← hb14]
    clear hwf hb14
    obtain ⟨k0, k1, k2, k3, k4, k5, k6⟩ := box7 (HUX.out _ HWf.out)
    go_upto_region 13 with (first
      | (go_at_call 20; (with_reducible refine (HKA.out _ (HB1.out.step HWf.out)).mono ?_); rintro e wB ⟨hb, v9, rfl, ho9⟩; obtain ⟨ua, uc, rfl, hru⟩ := ho9.rd; have HWg := hid (HWf.out.step hb); have HU9 := hid (fun wx (hx : Below wB.heap.size wB wx) => hru.below hx); obtain ⟨l0, l1, l2, l3, l4, l5, l6⟩ := box7 (HUX.out _ HWg.out); have HC6 := hid hb; clear hb ho9 hru)
      | (go_at_call 33; (with_reducible refine (HKR.out _ (HB1.out.step HWg.out)).mono ?_); rintro e wC ⟨hb, ra, rc, rfl, hrr⟩; have HWh := hid (HWg.out.step hb); have HR9 := hid (fun wx (hx : Below wC.heap.size wC wx) => hrr.below hx); have HU9 := hid (fun wx (hx : Below wC.heap.size wC wx) => HU9.out wx (hb.step hx)); have HC7 := hid (HC6.out.step hb); clear hb hrr))
    clear k0 k1 k2 k3 k4 k5 k6 l0 l1 l2 l3 l4 l5 l6
    have HG3 := hid (fun wx (hx : Below wC.heap.size wC wx) => HG3.out wx (HC7.out.step hx))
    have HG4 := hid (fun wx (hx : Below wC.heap.size wC wx) => HG4.out wx (HC7.out.step hx))
    have HN5 := hid (fun wx (hx : Below wC.heap.size wC wx) => HN5.out wx (HC7.out.step hx))
    have HN8 := hid (fun wx (hx : Below wC.heap.size wC wx) => HN8.out wx (HC7.out.step hx))
    have HN11 := hid (fun wx (hx : Below wC.heap.size wC wx) => HN11.out wx (HC7.out.step hx))
    have HQ9 := hid (fun wx (hx : Below wC.heap.size wC wx) => HQ9.out wx (HC7.out.step hx))
    have HPA2 := hid (fun wx (hx : Below wC.heap.size wC wx) => HPA2.out wx (HC7.out.step hx))
    have HN14 := hid (fun wx (hx : Below wC.heap.size wC wx) => HN14.out wx (HC7.out.step hx))
    obtain ⟨wi, hwi⟩ : ∃ W, W = wC.alloc (oNum (.slice ra CO.length rc) mn 0) := ⟨_, rfl⟩
    obtain ⟨b18, hb18⟩ : ∃ b, b = wC.heap.size := ⟨_, rfl⟩
    have HWi : Hid (Below w1.heap.size w1 wi) := hid (by rw [hwi]; exact HWh.out.step (bnew _ _))
    have HN180 : Hid (wi.heap[b18]? = some (oNum (.slice ra CO.length rc) mn 0)) := hid (by rw [hwi]; exact alloc_at hb18)
    have HN18 := hid (fun wx (hb : Below wi.heap.size wi wx) => keepBox hb HN180.out)
    have HG3 := hid (fun wx (hx : Below wi.heap.size wi wx) => HG3.out wx (Below.step (w := wC) (by rw [hwi]; exact bnew _ _) hx))
    have HG4 := hid (fun wx (hx : Below wi.heap.size wi wx) => HG4.out wx (Below.step (w := wC) (by rw [hwi]; exact bnew _ _) hx))
    have HN5 := hid (fun wx (hx : Below wi.heap.size wi wx) => HN5.out wx (Below.step (w := wC) (by rw [hwi]; exact bnew _ _) hx))
    have HN8 := hid (fun wx (hx : Below wi.heap.size wi wx) => HN8.out wx (Below.step (w := wC) (by rw [hwi]; exact bnew _ _) hx))
    have HN11 := hid (fun wx (hx : Below wi.heap.size wi wx) => HN11.out wx (Below.step (w := wC) (by rw [hwi]; exact bnew _ _) hx))
    have HQ9 := hid (fun wx (hx : Below wi.heap.size wi wx) => HQ9.out wx (Below.step (w := wC) (by rw [hwi]; exact bnew _ _) hx))
    have HPA2 := hid (fun wx (hx : Below wi.heap.size wi wx) => HPA2.out wx (Below.step (w := wC) (by rw [hwi]; exact bnew _ _) hx))
    have HN14 := hid (fun wx (hx : Below wi.heap.size wi wx) => HN14.out wx (Below.step (w := wC) (by rw [hwi]; exact bnew _ _) hx))
    have HU9 := hid (fun wx (hx : Below wi.heap.size wi wx) => HU9.out wx (Below.step (w := wC) (by rw [hwi]; exact bnew _ _) hx))
    have HR9 := hid (fun wx (hx : Below wi.heap.size wi wx) => HR9.out wx (Below.step (w := wC) (by rw [hwi]; exact bnew _ _) hx))
    rw [← hwi, ← hb18]
    clear hwi hb18
    obtain ⟨k0, k1, k2, k3, k4, k5, k6⟩ := box7 (HUX.out _ HWi.out)
    go_upto_region 15 with (first
      | (go_at_call 28; (with_reducible refine (HTA.out _ (HB1.out.step HWi.out)).mono ?_); rintro e w6 ⟨rfl, hb⟩; have HWj := hid (HWi.out.step hb); have HC6 := hid hb; obtain ⟨l0, l1, l2, l3, l4, l5, l6⟩ := box7 (HUX.out _ HWj.out); clear hb)
      | (go_at_call 16; (with_reducible refine (HTR.out _ (HB1.out.step HWj.out)).mono ?_); rintro e w7 ⟨rfl, hb⟩; have HWk := hid (HWj.out.step hb); have HC7 := hid (HC6.out.step hb); clear hb))
    clear k0 k1 k2 k3 k4 k5 k6 l0 l1 l2 l3 l4 l5 l6
    have HG3 := hid (fun wx (hx : Below w7.heap.size w7 wx) => HG3.out wx (HC7.out.step hx))
    have HG4 := hid (fun wx (hx : Below w7.heap.size w7 wx) => HG4.out wx (HC7.out.step hx))
    have HN5 := hid (fun wx (hx : Below w7.heap.size w7 wx) => HN5.out wx (HC7.out.step hx))
    have HN8 := hid (fun wx (hx : Below w7.heap.size w7 wx) => HN8.out wx (HC7.out.step hx))
    have HN11 := hid (fun wx (hx : Below w7.heap.size w7 wx) => HN11.out wx (HC7.out.step hx))
    have HQ9 := hid (fun wx (hx : Below w7.heap.size w7 wx) => HQ9.out wx (HC7.out.step hx))
    have HPA2 := hid (fun wx (hx : Below w7.heap.size w7 wx) => HPA2.out wx (HC7.out.step hx))
    have HN14 := hid (fun wx (hx : Below w7.heap.size w7 wx) => HN14.out wx (HC7.out.step hx))
    have HU9 := hid (fun wx (hx : Below w7.heap.size w7 wx) => HU9.out wx (HC7.out.step hx))
    have HR9 := hid (fun wx (hx : Below w7.heap.size w7 wx) => HR9.out wx (HC7.out.step hx))
    have HN18 := hid (fun wx (hx : Below w7.heap.size w7 wx) => HN18.out wx (HC7.out.step hx))
    have HS1 := hid (fun wx (hx : Below w7.heap.size w7 wx) => (show Calls Tryz.prog 34 #[.slice (some ⟨g, 0, none⟩) u.code.length u.code.length, .slice (some ⟨gr, 0, none⟩) u.code.length u.code.length] wx (RetB (.bool true) wx) from by
      have h := sameI_any FS FS (some ⟨g, 0, none⟩) (some ⟨gr, 0, none⟩) u.code.length u.code.length wx (HG3.out wx hx) (HG4.out wx hx) (by rw [HFL.out]; exact hlc) (by rw [HFL.out]; exact hlc)
      rw [HFL.out, decide_eq_true rfl] at h
      exact h))
    have HS2 := hid (fun wx (hx : Below w7.heap.size w7 wx) => (show Calls Tryz.prog 35 #[.slice qa CL.length qc, .slice pa CL.length pc] wx (RetB (.bool true) wx) from by
      have h := sameP_any CL CL qa pa qc pc wx (HQ9.out wx hx) (HPA2.out wx hx) HCL.out HCL.out
      rw [decide_eq_true rfl] at h
      exact h))
    have HS3 := hid (fun wx (hx : Below w7.heap.size w7 wx) => (show Calls Tryz.prog 34 #[.slice ua CO.length uc, .slice ra CO.length rc] wx (RetB (.bool true) wx) from by
      have h := sameI_any CO CO ua ra uc rc wx (HU9.out wx hx) (HR9.out wx hx) HCC.out HCC.out
      rw [decide_eq_true rfl] at h
      exact h))
    have c5 := (cell_of_row _ _ 0 _ _ _ (HN5.out _ (Below.refl _ _))).trans rfl
    go_upto_region 16 with (first
      | (go_at_call 34; (with_reducible refine (HS1.out _ (Below.refl _ _)).mono ?_); rintro e y1 ⟨rfl, hb⟩; have HY1 := hid hb; clear hb))
    have c14 := (cell_of_row _ _ 0 _ _ _ (HN14.out _ HY1.out)).trans rfl
    go_upto_region 17 with (first
      | (go_at_call 35; (with_reducible refine (HS2.out _ HY1.out).mono ?_); rintro e y2 ⟨rfl, hb⟩; have HY2 := hid (HY1.out.step hb); clear hb))
    have c18 := (cell_of_row _ _ 0 _ _ _ (HN18.out _ HY2.out)).trans rfl
    go_upto_region 18 with (first
      | (go_at_call 34; (with_reducible refine (HS3.out _ HY2.out).mono ?_); rintro e y3 ⟨rfl, hb⟩; have HY3 := hid (HY2.out.step hb); clear hb))
    clear c5 c14 c18
    go_wp2_with (first
      | (go_at_call 12; (with_reducible refine (sanity_any _).mono ?_); rintro e y4 ⟨rfl, hb⟩; have HY4 := hid (HY3.out.step hb); obtain ⟨-, x51, x52⟩ := box3 (HN5.out _ HY4.out); obtain ⟨-, x81, x82⟩ := box3 (HN8.out _ HY4.out); obtain ⟨-, xb1, xb2⟩ := box3 (HN11.out _ HY4.out); have xe1 := (cell_of_row _ _ 1 _ _ _ (HN14.out _ HY4.out)).trans rfl; obtain ⟨-, xi1, xi2⟩ := box3 (HN18.out _ HY4.out); clear hb))
    go_ret
    exact ⟨rfl, HB1.out.step (HWk.out.step HY4.out)⟩
  | false =>
    have HGN := hid (fun W (hb : Below w.heap.size w W) => (HGA.out W hb).mono (R' := fun e w' => Below W.heap.size W w' ∧ e = .returned (.tuple #[.slice none 0 0, .int .i64 1])) fun e w' h => by
      rw [hw, if_neg (by simp)] at h
      exact h)
    have HGR := hid (fun W (hb : Below w.heap.size w W) => groups30_no u ca cc ga gc W (HM.out.below hb) hlc hlg HAB.out hw)
    have HLR := hid (fun W (hb : Below w.heap.size w W) => least14_no u ca cc ga gc W (HM.out.below hb) hlc hlg HAB.out hw)
    have HPR := hid (fun W (hb : Below w.heap.size w W) => press31_no u ca cc ga gc W (HM.out.below hb) hlc hlg HAB.out hw)
    have HCA := hid (fun W (hb : Below w.heap.size w W) => clashesFn_no u ca cc ga gc W (HM.out.below hb) hlc hlg hw)
    have HCR := hid (fun W (hb : Below w.heap.size w W) => clashes32_no u ca cc ga gc W (HM.out.below hb) hlc hlg HAB.out hw)
    have HKA := hid (fun W (hb : Below w.heap.size w W) => colours_no u ca cc ga gc W (HM.out.below hb) hlc hlg hw)
    have HKR := hid (fun W (hb : Below w.heap.size w W) => colours33_no u ca cc ga gc W (HM.out.below hb) hlc hlg HAB.out hw)
    rw [hw, if_neg (by simp), if_neg (by simp)] at HLA HPA
    have HS0 := hid (fun W => (show Calls Tryz.prog 34 #[.slice none 0 0, .slice none 0 0] W (RetB (.bool true) W) from sameI_any [] [] none none 0 0 W (fun i h => absurd h (Nat.not_lt_zero i)) (fun i h => absurd h (Nat.not_lt_zero i)) (Nat.zero_le _) (Nat.zero_le _)))
    have HP0 := hid (fun W => (show Calls Tryz.prog 35 #[.slice none 0 0, .slice none 0 0] W (RetB (.bool true) W) from sameP_any [] [] none none 0 0 W (fun i h => absurd h (Nat.not_lt_zero i)) (fun i h => absurd h (Nat.not_lt_zero i)) (Nat.zero_le _) (Nat.zero_le _)))
    clear hw HGA
    go_upto_region 5 with (first
      | (go_at_call 11; (with_reducible refine (HF1.out _).mono ?_); rintro e w2 ⟨rfl, hb⟩; have HW2 := hid hb; obtain ⟨m0, m1, m2, m3, m4, m5, m6⟩ := box7 (HUX.out _ hb); clear hb)
      | (go_at_call 29; (with_reducible refine (HGN.out _ (HB1.out.step HW2.out)).mono ?_); rintro e w3 ⟨hb, rfl⟩; have HW3 := hid (HW2.out.step hb); obtain ⟨l0, l1, l2, l3, l4, l5, l6⟩ := box7 (HUX.out _ HW3.out); clear hb)
      | (go_at_call 30; (with_reducible refine (HGR.out _ (HB1.out.step HW3.out)).mono ?_); rintro e w4 ⟨rfl, hb⟩; have HW4 := hid (HW3.out.step hb); clear hb))
    clear k0 k1 k2 k3 k4 k5 k6 l0 l1 l2 l3 l4 l5 l6 m0 m1 m2 m3 m4 m5 m6
    obtain ⟨w5, hw5⟩ : ∃ W, W = w4.alloc (oNum (.slice none 0 0) 0 1) := ⟨_, rfl⟩
    obtain ⟨b5, hb5⟩ : ∃ b, b = w4.heap.size := ⟨_, rfl⟩
    have HW5 : Hid (Below w1.heap.size w1 w5) := hid (by rw [hw5]; exact HW4.out.step (bnew _ _))
    have HN50 : Hid (w5.heap[b5]? = some (oNum (.slice none 0 0) 0 1)) := hid (by rw [hw5]; exact alloc_at hb5)
    have HN5 := hid (fun wx (hb : Below w5.heap.size w5 wx) => keepBox hb HN50.out)
    rw [← hw5, ← hb5]
    clear hw5 hb5
    obtain ⟨k0, k1, k2, k3, k4, k5, k6⟩ := box7 (HUX.out _ HW5.out)
    go_upto_region 7 with (first
      | (go_at_call 24; (with_reducible refine (HLA.out _ (HB1.out.step HW5.out)).mono ?_); rintro e w6 ⟨rfl, hb⟩; have HW6 := hid (HW5.out.step hb); have HC6 := hid hb; obtain ⟨l0, l1, l2, l3, l4, l5, l6⟩ := box7 (HUX.out _ HW6.out); clear hb)
      | (go_at_call 14; (with_reducible refine (HLR.out _ (HB1.out.step HW6.out)).mono ?_); rintro e w7 ⟨rfl, hb⟩; have HW7 := hid (HW6.out.step hb); have HC7 := hid (HC6.out.step hb); clear hb))
    clear k0 k1 k2 k3 k4 k5 k6 l0 l1 l2 l3 l4 l5 l6
    have HN5 := hid (fun wx (hx : Below w7.heap.size w7 wx) => HN5.out wx (HC7.out.step hx))
    obtain ⟨w8, hw8⟩ : ∃ W, W = w7.alloc (oNum (.slice none 0 0) 0 1) := ⟨_, rfl⟩
    obtain ⟨b8, hb8⟩ : ∃ b, b = w7.heap.size := ⟨_, rfl⟩
    have HW8 : Hid (Below w1.heap.size w1 w8) := hid (by rw [hw8]; exact HW7.out.step (bnew _ _))
    have HN80 : Hid (w8.heap[b8]? = some (oNum (.slice none 0 0) 0 1)) := hid (by rw [hw8]; exact alloc_at hb8)
    have HN8 := hid (fun wx (hb : Below w8.heap.size w8 wx) => keepBox hb HN80.out)
    have HN5 := hid (fun wx (hx : Below w8.heap.size w8 wx) => HN5.out wx (Below.step (w := w7) (by rw [hw8]; exact bnew _ _) hx))
    rw [← hw8, ← hb8]
    clear hw8 hb8
    obtain ⟨k0, k1, k2, k3, k4, k5, k6⟩ := box7 (HUX.out _ HW8.out)
    go_upto_region 9 with (first
      | (go_at_call 26; (with_reducible refine (HPA.out _ (HB1.out.step HW8.out)).mono ?_); rintro e w6 ⟨rfl, hb⟩; have HW9 := hid (HW8.out.step hb); have HC6 := hid hb; obtain ⟨l0, l1, l2, l3, l4, l5, l6⟩ := box7 (HUX.out _ HW9.out); clear hb)
      | (go_at_call 31; (with_reducible refine (HPR.out _ (HB1.out.step HW9.out)).mono ?_); rintro e w7 ⟨rfl, hb⟩; have HWb := hid (HW9.out.step hb); have HC7 := hid (HC6.out.step hb); clear hb))
    clear k0 k1 k2 k3 k4 k5 k6 l0 l1 l2 l3 l4 l5 l6
    have HN5 := hid (fun wx (hx : Below w7.heap.size w7 wx) => HN5.out wx (HC7.out.step hx))
    have HN8 := hid (fun wx (hx : Below w7.heap.size w7 wx) => HN8.out wx (HC7.out.step hx))
    obtain ⟨wc, hwc⟩ : ∃ W, W = w7.alloc (oNum (.slice none 0 0) 0 1) := ⟨_, rfl⟩
    obtain ⟨b11, hb11⟩ : ∃ b, b = w7.heap.size := ⟨_, rfl⟩
    have HWc : Hid (Below w1.heap.size w1 wc) := hid (by rw [hwc]; exact HWb.out.step (bnew _ _))
    have HN110 : Hid (wc.heap[b11]? = some (oNum (.slice none 0 0) 0 1)) := hid (by rw [hwc]; exact alloc_at hb11)
    have HN11 := hid (fun wx (hb : Below wc.heap.size wc wx) => keepBox hb HN110.out)
    have HN5 := hid (fun wx (hx : Below wc.heap.size wc wx) => HN5.out wx (Below.step (w := w7) (by rw [hwc]; exact bnew _ _) hx))
    have HN8 := hid (fun wx (hx : Below wc.heap.size wc wx) => HN8.out wx (Below.step (w := w7) (by rw [hwc]; exact bnew _ _) hx))
    rw [← hwc, ← hb11]
    clear hwc hb11
    obtain ⟨k0, k1, k2, k3, k4, k5, k6⟩ := box7 (HUX.out _ HWc.out)
    go_upto_region 11 with (first
      | (go_at_call 19; (with_reducible refine (HCA.out _ (HB1.out.step HWc.out)).mono ?_); rintro e w9 ⟨rfl, hb⟩; have HWd := hid (HWc.out.step hb); obtain ⟨l0, l1, l2, l3, l4, l5, l6⟩ := box7 (HUX.out _ HWd.out); have HC6 := hid hb; clear hb)
      | (go_at_call 32; (with_reducible refine (HCR.out _ (HB1.out.step HWd.out)).mono ?_); rintro e wA ⟨rfl, hb⟩; have HWe := hid (HWd.out.step hb); have HC7 := hid (HC6.out.step hb); clear hb))
    clear k0 k1 k2 k3 k4 k5 k6 l0 l1 l2 l3 l4 l5 l6
    have HN5 := hid (fun wx (hx : Below wA.heap.size wA wx) => HN5.out wx (HC7.out.step hx))
    have HN8 := hid (fun wx (hx : Below wA.heap.size wA wx) => HN8.out wx (HC7.out.step hx))
    have HN11 := hid (fun wx (hx : Below wA.heap.size wA wx) => HN11.out wx (HC7.out.step hx))
    obtain ⟨wf, hwf⟩ : ∃ W, W = wA.alloc (oPrs (.slice none 0 0) 1) := ⟨_, rfl⟩
    obtain ⟨b14, hb14⟩ : ∃ b, b = wA.heap.size := ⟨_, rfl⟩
    have HWf : Hid (Below w1.heap.size w1 wf) := hid (by rw [hwf]; exact HWe.out.step (bnew _ _))
    have HN140 : Hid (wf.heap[b14]? = some (oPrs (.slice none 0 0) 1)) := hid (by rw [hwf]; exact alloc_at hb14)
    have HN14 := hid (fun wx (hb : Below wf.heap.size wf wx) => keepBox hb HN140.out)
    have HN5 := hid (fun wx (hx : Below wf.heap.size wf wx) => HN5.out wx (Below.step (w := wA) (by rw [hwf]; exact bnew _ _) hx))
    have HN8 := hid (fun wx (hx : Below wf.heap.size wf wx) => HN8.out wx (Below.step (w := wA) (by rw [hwf]; exact bnew _ _) hx))
    have HN11 := hid (fun wx (hx : Below wf.heap.size wf wx) => HN11.out wx (Below.step (w := wA) (by rw [hwf]; exact bnew _ _) hx))
    rw [← hwf, ← hb14]
    clear hwf hb14
    obtain ⟨k0, k1, k2, k3, k4, k5, k6⟩ := box7 (HUX.out _ HWf.out)
    go_upto_region 13 with (first
      | (go_at_call 20; (with_reducible refine (HKA.out _ (HB1.out.step HWf.out)).mono ?_); rintro e wB ⟨rfl, hb⟩; have HWg := hid (HWf.out.step hb); obtain ⟨l0, l1, l2, l3, l4, l5, l6⟩ := box7 (HUX.out _ HWg.out); have HC6 := hid hb; clear hb)
      | (go_at_call 33; (with_reducible refine (HKR.out _ (HB1.out.step HWg.out)).mono ?_); rintro e wC ⟨rfl, hb⟩; have HWh := hid (HWg.out.step hb); have HC7 := hid (HC6.out.step hb); clear hb))
    clear k0 k1 k2 k3 k4 k5 k6 l0 l1 l2 l3 l4 l5 l6
    have HN5 := hid (fun wx (hx : Below wC.heap.size wC wx) => HN5.out wx (HC7.out.step hx))
    have HN8 := hid (fun wx (hx : Below wC.heap.size wC wx) => HN8.out wx (HC7.out.step hx))
    have HN11 := hid (fun wx (hx : Below wC.heap.size wC wx) => HN11.out wx (HC7.out.step hx))
    have HN14 := hid (fun wx (hx : Below wC.heap.size wC wx) => HN14.out wx (HC7.out.step hx))
    obtain ⟨wi, hwi⟩ : ∃ W, W = wC.alloc (oNum (.slice none 0 0) 0 1) := ⟨_, rfl⟩
    obtain ⟨b18, hb18⟩ : ∃ b, b = wC.heap.size := ⟨_, rfl⟩
    have HWi : Hid (Below w1.heap.size w1 wi) := hid (by rw [hwi]; exact HWh.out.step (bnew _ _))
    have HN180 : Hid (wi.heap[b18]? = some (oNum (.slice none 0 0) 0 1)) := hid (by rw [hwi]; exact alloc_at hb18)
    have HN18 := hid (fun wx (hb : Below wi.heap.size wi wx) => keepBox hb HN180.out)
    have HN5 := hid (fun wx (hx : Below wi.heap.size wi wx) => HN5.out wx (Below.step (w := wC) (by rw [hwi]; exact bnew _ _) hx))
    have HN8 := hid (fun wx (hx : Below wi.heap.size wi wx) => HN8.out wx (Below.step (w := wC) (by rw [hwi]; exact bnew _ _) hx))
    have HN11 := hid (fun wx (hx : Below wi.heap.size wi wx) => HN11.out wx (Below.step (w := wC) (by rw [hwi]; exact bnew _ _) hx))
    have HN14 := hid (fun wx (hx : Below wi.heap.size wi wx) => HN14.out wx (Below.step (w := wC) (by rw [hwi]; exact bnew _ _) hx))
    rw [← hwi, ← hb18]
    clear hwi hb18
    obtain ⟨k0, k1, k2, k3, k4, k5, k6⟩ := box7 (HUX.out _ HWi.out)
    go_upto_region 15 with (first
      | (go_at_call 28; (with_reducible refine (HTA.out _ (HB1.out.step HWi.out)).mono ?_); rintro e w6 ⟨rfl, hb⟩; have HWj := hid (HWi.out.step hb); have HC6 := hid hb; obtain ⟨l0, l1, l2, l3, l4, l5, l6⟩ := box7 (HUX.out _ HWj.out); clear hb)
      | (go_at_call 16; (with_reducible refine (HTR.out _ (HB1.out.step HWj.out)).mono ?_); rintro e w7 ⟨rfl, hb⟩; have HWk := hid (HWj.out.step hb); have HC7 := hid (HC6.out.step hb); clear hb))
    clear k0 k1 k2 k3 k4 k5 k6 l0 l1 l2 l3 l4 l5 l6
    have HN5 := hid (fun wx (hx : Below w7.heap.size w7 wx) => HN5.out wx (HC7.out.step hx))
    have HN8 := hid (fun wx (hx : Below w7.heap.size w7 wx) => HN8.out wx (HC7.out.step hx))
    have HN11 := hid (fun wx (hx : Below w7.heap.size w7 wx) => HN11.out wx (HC7.out.step hx))
    have HN14 := hid (fun wx (hx : Below w7.heap.size w7 wx) => HN14.out wx (HC7.out.step hx))
    have HN18 := hid (fun wx (hx : Below w7.heap.size w7 wx) => HN18.out wx (HC7.out.step hx))
    have HS1 := hid (fun wx (_ : Below w7.heap.size w7 wx) => HS0.out wx)
    have HS2 := hid (fun wx (_ : Below w7.heap.size w7 wx) => HP0.out wx)
    have HS3 := hid (fun wx (_ : Below w7.heap.size w7 wx) => HS0.out wx)
    have c5 := (cell_of_row _ _ 0 _ _ _ (HN5.out _ (Below.refl _ _))).trans rfl
    go_upto_region 16 with (first
      | (go_at_call 34; (with_reducible refine (HS1.out _ (Below.refl _ _)).mono ?_); rintro e y1 ⟨rfl, hb⟩; have HY1 := hid hb; clear hb))
    have c14 := (cell_of_row _ _ 0 _ _ _ (HN14.out _ HY1.out)).trans rfl
    go_upto_region 17 with (first
      | (go_at_call 35; (with_reducible refine (HS2.out _ HY1.out).mono ?_); rintro e y2 ⟨rfl, hb⟩; have HY2 := hid (HY1.out.step hb); clear hb))
    have c18 := (cell_of_row _ _ 0 _ _ _ (HN18.out _ HY2.out)).trans rfl
    go_upto_region 18 with (first
      | (go_at_call 34; (with_reducible refine (HS3.out _ HY2.out).mono ?_); rintro e y3 ⟨rfl, hb⟩; have HY3 := hid (HY2.out.step hb); clear hb))
    clear c5 c14 c18
    go_wp2_with (first
      | (go_at_call 12; (with_reducible refine (sanity_any _).mono ?_); rintro e y4 ⟨rfl, hb⟩; have HY4 := hid (HY3.out.step hb); obtain ⟨-, x51, x52⟩ := box3 (HN5.out _ HY4.out); obtain ⟨-, x81, x82⟩ := box3 (HN8.out _ HY4.out); obtain ⟨-, xb1, xb2⟩ := box3 (HN11.out _ HY4.out); have xe1 := (cell_of_row _ _ 1 _ _ _ (HN14.out _ HY4.out)).trans rfl; obtain ⟨-, xi1, xi2⟩ := box3 (HN18.out _ HY4.out); clear hb))
    go_ret
    exact ⟨rfl, HB1.out.step (HWk.out.step HY4.out)⟩
end Go.Proofs.YtgalekifgnecjaaGreat
