/- The reader of package regs: the homes of slots, where the first tests are passed. -/
import Derived.Test.YtgalekifgnecjaaGreatT10
namespace Go.Proofs.YtgalekifgnecjaaGreat
open Go.RowKit Go.Shelf
attribute [local go_sem] Oper.semAt_some
def homP1 (v : UntN) (us : List Int) (s : Nat) (x : Int) : Bool := (x == -1 && !us.contains (s : Int)) || inN x 0 (v.slots - 1) || (decide (x ≤ -2) && inN (-2 - x) 0 (v.frame - 1))
theorem homOne_eq (v : UntN) (h : List Int) (cl : List (Int × Int)) (us : List Int) (s : Nat) : homOne v h cl us s = (homP1 v us s (homeN h s) && (List.range s).all fun t => !clB cl s t || homeN h s != homeN h t) := rfl
/-- What homed has made. -/
structure HmM (w0 : World) (r : RdrN) (a bu bv b5 b6 : Nat) (w : World) : Prop where
  hb : HmB w0 r a bu bv w
  hs : SetAt w b5 (usedL r.u)
  hp : PairAt w b6 (clashL r.u)
theorem HmM.below {w0 : World} {r : RdrN} {a bu bv b5 b6 : Nat} {w w' : World} (h : HmM w0 r a bu bv b5 b6 w) (hb : Below w.heap.size w w') : HmM w0 r a bu bv b5 b6 w' := ⟨h.hb.below hb, h.hs.below hb, h.hp.below hb⟩
theorem homed_h1 {u v : UntN} {h t : List Int} {s : Nat} (hs : s < h.length) (hf : homOne v h (clashL u) (usedL u) s = false) : homedB u v h t = false := by
  rw [homedB_eq, all_false hs hf]
  simp
theorem homed_h2 {u v : UntN} {h t : List Int} {i : Nat} (hi : i < u.args.toNat) (hf : homArg v h ((liveL u).getD 0 []) i = false) : homedB u v h t = false := by
  rw [homedB_eq, all_false hi hf]
  simp
theorem homed_yes {u v : UntN} {h t : List Int} (h1 : homHd1 u v h t = true) (h2 : homHd2 u v = true) (h3 : ∀ s, s < h.length → homOne v h (clashL u) (usedL u) s = true) (h4 : ∀ i, i < u.args.toNat → homArg v h ((liveL u).getD 0 []) i = true) : homedB u v h t = true := by
  rw [homedB_eq, h1, h2, Bool.true_and, Bool.true_and, Bool.and_eq_true]
  exact ⟨List.all_eq_true.2 fun s hs => h3 s (List.mem_range.1 hs), List.all_eq_true.2 fun i hi => h4 i (List.mem_range.1 hi)⟩
attribute [local irreducible] wpStill
set_option maxRecDepth 100000 in
set_option maxHeartbeats 8000000 in
theorem homed_main (w0 : World) (r : RdrN) (a : Nat) (w : World) (hm : RdrM w0 r) (h : RI w0 r a w) (hw : writB r.u = true) (hh : r.h.length ≤ 1000000) (_ht : r.t.length ≤ 1000000) (hv : r.v.code.length ≤ 1000000) (hwf : ∀ x ∈ r.h, -9223372036854775808 ≤ x ∧ x ≤ 9223372036854775807) (hhd : homHd1 r.u r.v r.h r.t = true) :
    Calls Tryz.prog 182 #[.pointer (some ⟨w0.heap.size, 0, none⟩)] w (RP w0 r (if homedB r.u r.v r.h r.t = true then some a else none) w) := by
  have HM := hid hm
  have HI := hid h
  obtain ⟨o, ho⟩ : ∃ o, o = if homedB r.u r.v r.h r.t = true then some a else none := ⟨_, rfl⟩
  rw [← ho]
  have HOO := hid ho
  have HWF := hid hwf
  have HHD := hid hhd
  clear hm h ho hwf hhd
  have hargs := writ_args hw
  have hn6 := writ_len hw
  have hgo := live_good r.u
  have hl0 : 0 < r.u.code.length := (plain_leads (writ_plain hw)).1
  have kk : ∀ k v, (#[.string r.u.cls, .string r.u.name, .int .i64 r.u.args, .int .i64 r.u.slots, .int .i64 r.u.frame, .slice r.ca r.u.code.length r.cc, .slice r.ga r.u.guards.length r.gc, .slice r.va (liveL r.u).length r.vc,
  .string r.v.cls, .string r.v.name, .int .i64 r.v.args, .int .i64 r.v.slots, .int .i64 r.v.frame, .slice r.da r.v.code.length r.dc, .slice r.ea r.v.guards.length r.ec, .slice r.ha r.h.length r.hc, .slice r.ta r.t.length r.tc, Value.int .i64 a] : Array Value)[k]? = some v → w.cell? ⟨w0.heap.size, k, none⟩ = some v := fun k v hk => (cell_of_row _ _ k _ _ _ HI.out.hr).trans hk
  have k0 := kk 0 _ rfl
  have k1 := kk 1 _ rfl
  have k2 := kk 2 _ rfl
  have k3 := kk 3 _ rfl
  have k4 := kk 4 _ rfl
  have k5 := kk 5 _ rfl
  have k6 := kk 6 _ rfl
  have k8 := kk 8 _ rfl
  have k9 := kk 9 _ rfl
  have k10 := kk 10 _ rfl
  have k11 := kk 11 _ rfl
  have k12 := kk 12 _ rfl
  have k13 := kk 13 _ rfl
  have k14 := kk 14 _ rfl
  have k15 := kk 15 _ rfl
  clear kk
  have hlt := lt_of_heap HI.out.hr
  have z1 : ¬ w0.heap.size = w.heap.size := by omega
  have z2 : ¬ w0.heap.size = w.heap.size + 1 := by omega
  have z3 : ¬ w.heap.size = w0.heap.size := by omega
  have z4 : ¬ w.heap.size + 1 = w0.heap.size := by omega
  go_enter Tryz.func182, Tryz.ntmps182
  go_upto_region 0 with fail
  go_cut [2, 3, 4] from 13 to 26 (fun s2 s3 s4 wy => ∃ bu bv : Nat, s2 = .pointer (some ⟨bu, 0, none⟩) ∧ s3 = .pointer (some ⟨bv, 0, none⟩) ∧ s4 = .slice r.ha r.h.length r.hc ∧ Hid (HmB w0 r a bu bv wy) ∧ Hid (Below w.heap.size w wy))
  case first =>
    go_region
    all_goals
      go_wp2_with fail
      go_meet
      first
        | exact ⟨w.heap.size, w.heap.size + 1, rfl, rfl, rfl, hid ⟨HI.out.below (((bnew _ _).step (bnew _ _)).step (bdrew _)), keepBox (bdrew _) (keepBox (bnew _ _) (heapn _ _ _ rfl)), keepBox (bdrew _) (heapn _ _ _ (by simp))⟩, hid (((bnew _ _).step (bnew _ _)).step (bdrew _))⟩
        | exact ⟨w.heap.size + 1, w.heap.size, rfl, rfl, rfl, hid ⟨HI.out.below (((bnew _ _).step (bnew _ _)).step (bdrew _)), keepBox (bdrew _) (heapn _ _ _ (by simp)), keepBox (bdrew _) (keepBox (bnew _ _) (heapn _ _ _ rfl))⟩, hid (((bnew _ _).step (bnew _ _)).step (bdrew _))⟩
  case rest =>
    obtain ⟨bu, bv, rfl, rfl, rfl, HB, HW0⟩ := hcut
    clear k0 k1 k2 k3 k4 k5 k6 k8 k9 k10 k11 k12 k13 k14 k15
    obtain ⟨u0, u1, u2, u3, u4, u5, u6⟩ := box7 HB.out.hu
    obtain ⟨v0, v1, v2, v3, v4, v5, v6⟩ := box7 HB.out.hv
    have k16 : wc.cell? ⟨w0.heap.size, 16, none⟩ = some (.slice r.ta r.t.length r.tc) := (cell_of_row _ _ 16 _ _ _ HB.out.hi.hr).trans rfl
    have HNO : Hid (homedB r.u r.v r.h r.t = false → o = none) := hid (fun h => by rw [HOO.out, h]; rfl)
    have hx := HHD.out
    unfold homHd1 at hx
    simp only [Bool.and_eq_true, decide_eq_true_eq, beq_iff_eq] at hx
    obtain ⟨⟨⟨⟨h1, h2⟩, h3⟩, h4⟩, h5⟩ := hx
    have d1 : ((r.h.length : Int) == r.u.slots) = true := by simpa using h1
    have d2 : ((r.t.length : Int) == (r.u.code.length : Int)) = true := by simp only [beq_iff_eq]; omega
    have d3 : (r.u.cls.toList == r.v.cls.toList) = true := by rw [← beq_toListBytes]; simpa using h3
    have d4 : (r.u.name.toList == r.v.name.toList) = true := by rw [← beq_toListBytes]; simpa using h4
    have d5 : (r.u.args == r.v.args) = true := by simpa using h5
    have HL := hid (And.intro h1 h2)
    have hhl : r.h.length ≤ 200 := by omega
    have hh0 : 0 < r.h.length := by omega
    clear h1 h2 h3 h4 h5
    go_upto_region 1 with fail
    go_still_tail 38, (by kernel_rfl)
    change wpList _ _ _ _ _ wc.drew
    go_upto_region 2 with (first
      | (go_at_call 185; (with_reducible refine (must_yes _).mono ?_); rintro e w8 ⟨rfl, rfl⟩))
    clear d1 d2 d3 d4 d5 u0 u1 u2 u3 u4 u5 u6 v0 v1 v2 v3 v4 v5 v6 k16
    have HBD := hid (HB.out.below (bdrew wc))
    have HWD := hid (HW0.out.step (bdrew wc))
    generalize wc.drew = wd at *
    clear HB HW0
    have HWI := hid (fun n lo hi w => within_regs n lo hi w)
    have HMU := hid (fun b w => must_or b w)
    have HD2 : Hid (homHd2 r.u r.v = (inN r.v.slots 1 r.u.slots && inN r.v.frame 0 200 && decide (r.v.code.length ≤ 600))) := hid rfl
    have HN2 : Hid (homHd2 r.u r.v = false → o = none) := hid (fun h => HNO.out (by rw [homedB_eq, h]; simp))
    obtain ⟨u0, u1, u2, u3, u4, u5, u6⟩ := box7 HBD.out.hu
    obtain ⟨v0, v1, v2, v3, v4, v5, v6⟩ := box7 HBD.out.hv
    have HGD := hid (grown_ofB HWD.out (some w0.heap.size))
    cases e1 : inN r.v.slots 1 r.u.slots with
    | false =>
      have HE := hid (HN2.out (by rw [HD2.out, e1]; rfl))
      have HW1 := hid (fun w => HWI.out r.v.slots 1 r.u.slots w)
      rw [e1] at HW1
      clear e1
      go_wp2_with (first
        | (go_at_call 43; (with_reducible refine (HW1.out _).mono ?_); rintro e w3 ⟨rfl, rfl⟩)
        | (go_at_call 185; (with_reducible refine (must_no _).mono ?_); rintro e w8 ⟨rfl, rfl⟩))
      exact ⟨rfl, HGD.out, by rw [HE.out]⟩
    | true =>
    have HW1 := hid (fun w => HWI.out r.v.slots 1 r.u.slots w)
    rw [e1] at HW1
    cases e2 : inN r.v.frame 0 200 with
    | false =>
      have HE := hid (HN2.out (by rw [HD2.out, e1, e2]; rfl))
      have HW2 := hid (fun w => HWI.out r.v.frame 0 200 w)
      rw [e2] at HW2
      clear e1 e2
      go_wp2_with (first
        | (go_at_call 43; first | ((with_reducible refine (HW1.out _).mono ?_); rintro e w3 ⟨rfl, rfl⟩) | ((with_reducible refine (HW2.out _).mono ?_); rintro e w3 ⟨rfl, rfl⟩))
        | (go_at_call 185; (with_reducible refine (must_no _).mono ?_); rintro e w8 ⟨rfl, rfl⟩))
      exact ⟨rfl, HGD.out, by rw [HE.out]⟩
    | true =>
    have HW2 := hid (fun w => HWI.out r.v.frame 0 200 w)
    rw [e2] at HW2
    by_cases e3 : r.v.code.length ≤ 600
    case neg =>
      have HE := hid (HN2.out (by rw [HD2.out, e1, e2, decide_eq_false e3]; rfl))
      have n3 : (600 : Int) < (r.v.code.length : Int) := by omega
      have n3d : decide (r.v.code.length ≤ 600) = false := decide_eq_false e3
      have n3e : decide ((r.v.code.length : Int) ≤ 600) = false := decide_eq_false (by omega)
      clear e1 e2 e3
      go_wp2_with (first
        | (go_at_call 43; first | ((with_reducible refine (HW1.out _).mono ?_); rintro e w3 ⟨rfl, rfl⟩) | ((with_reducible refine (HW2.out _).mono ?_); rintro e w3 ⟨rfl, rfl⟩))
        | (go_at_call 185; (with_reducible refine (must_no _).mono ?_); rintro e w8 ⟨rfl, rfl⟩))
      exact ⟨rfl, HGD.out, by rw [HE.out]⟩
    have n3 : (r.v.code.length : Int) ≤ 600 := by omega
    have HT2 : Hid (homHd2 r.u r.v = true) := hid (by rw [HD2.out, e1, e2, decide_eq_true e3]; rfl)
    have hsl : 1 ≤ r.v.slots ∧ r.v.slots ≤ 200 := by unfold inN at e1; simp only [Bool.and_eq_true, decide_eq_true_eq] at e1; omega
    have hfr : 0 ≤ r.v.frame ∧ r.v.frame ≤ 200 := by unfold inN at e2; simp only [Bool.and_eq_true, decide_eq_true_eq] at e2; omega
    clear e1 e2 e3
    go_upto_region 3 with (first
      | (go_at_call 43; first | ((with_reducible refine (HW1.out _).mono ?_); rintro e w3 ⟨rfl, rfl⟩) | ((with_reducible refine (HW2.out _).mono ?_); rintro e w3 ⟨rfl, rfl⟩))
      | (go_at_call 185; (with_reducible refine (must_yes _).mono ?_); rintro e w8 ⟨rfl, rfl⟩))
    clear HW1 HW2 HD2 HN2 n3
    have HUS := hid (fun (w' : World) (hb : Below w0.heap.size w0 w') => used_any r.u r.ca r.cc r.ga r.gc w' (HM.out.below hb).mu.rc hn6 (by omega) (fun t ht x hx => by have := writ_readIn hw ht x hx; omega) (fun t ht => by have := writ_writeIn hw ht; omega))
    have HCL := hid (fun (w' : World) (hb : Below w0.heap.size w0 w') => clashes_any r.u r.ca r.cc r.ga r.gc w' (HM.out.below hb).mu hw)
    obtain ⟨bh, oh, hha, _, _⟩ := (HM.out.mh.below HBD.out.hi.hb) 0 hh0
    have HHA := hid hha
    clear hha
    rw [HHA.out]
    go_cut [5, 6] from 83 to 86 (fun s5 s6 wy => ∃ b5 b6 : Nat, s5 = .map (some b5) ∧ s6 = .map (some b6) ∧ Hid (HmM w0 r a bu bv b5 b6 wy) ∧ Hid (Below w.heap.size w wy))
    case first =>
      have HBd : Hid (HmB w0 r a bu bv w8.drew) := hid (HBD.out.below (bdrew w8))
      go_region_with (first
        | (go_at_call 104; (with_reducible refine (HUS.out _ HBd.out.hi.hb).mono ?_); rintro e w7 ⟨hb, b5, rfl, hset, _⟩; have HB7 := hid (HBd.out.below hb); have HW7 := hid ((HWD.out.step (bdrew w8)).step hb); have HS7 := hid hset; obtain ⟨j0, j1, j2, j3, j4, j5, j6⟩ := box7 HB7.out.hu; clear hb hset)
        | (go_at_call 63; (with_reducible refine (HCL.out _ HB7.out.hi.hb).mono ?_); rintro e w9 ⟨hb, b6, rfl, hpa, _⟩; have HB9 := hid (HB7.out.below hb); have HW9 := hid (HW7.out.step hb); have HS9 := hid (HS7.out.below hb); have HP9 := hid hpa; clear hb hpa))
      all_goals (go_wp2_with fail; go_meet; exact ⟨_, _, rfl, rfl, hid ⟨HB9.out, HS9.out, HP9.out⟩, HW9⟩)
    case rest =>
      obtain ⟨b5, b6, rfl, rfl, HQ0, HWQ⟩ := hcut
      clear u0 u1 u2 u3 u4 u5 u6 v0 v1 v2 v3 v4 v5 v6 HBD HWD HGD HUS HCL
      have HGE := hid (fun (wy : World) (hb : Below wc.heap.size wc wy) => (grown_ofB (HWQ.out.step hb) (some w0.heap.size)))
      have HF1 := hid (fun s (hs : s < r.h.length) (hf : homOne r.v r.h (clashL r.u) (usedL r.u) s = false) => HNO.out (homed_h1 hs hf))
      have HF2 := hid (fun i (hi : i < r.u.args.toNat) (hf : homArg r.v r.h ((liveL r.u).getD 0 []) i = false) => HNO.out (homed_h2 hi hf))
      have HOK := hid (fun h3 h4 => (show o = some a from by rw [HOO.out, if_pos (homed_yes HHD.out HT2.out h3 h4)]))
      have HRH := hid (fun (w' : World) (hb : Below w0.heap.size w0 w') i (hi : i < r.h.length) => (show w'.cell? ⟨bh, oh + i, none⟩ = some (.int .i64 r.h[i]) from by
        obtain ⟨b2, o2, e2, _, h2⟩ := (HM.out.mh.below hb) i hi
        rw [HHA.out] at e2
        cases e2
        exact h2))
      clear HNO HOO HT2
      go_upto_region 5 with fail
      go_loopg [89] r.h.length (fun gh s89 wr => ∃ s : Nat, s ≤ r.h.length ∧ gh = r.h.length - s ∧ s89 = .int .i64 s ∧ Hid (Below wc.heap.size wc wr) ∧ Hid (∀ k, k < s → homOne r.v r.h (clashL r.u) (usedL r.u) k = true))
      case atStart => exact ⟨0, Nat.zero_le _, rfl, rfl, hid (Below.refl _ _), hid (fun k h => absurd h (Nat.not_lt_zero _))⟩
      case round =>
        obtain ⟨s, hs, rfl, rfl, HB, HP⟩ := hrel
        by_cases hsl2 : s < r.h.length
        · have ns : (s : Int) < (r.h.length : Int) := by omega
          have HQ := hid (HQ0.out.below HB.out)
          have h0 := HRH.out wr HQ.out.hb.hi.hb s hsl2
          have hxw := HWF.out r.h[s] (List.getElem_mem hsl2)
          have HO1 : Hid (homOne r.v r.h (clashL r.u) (usedL r.u) s = (homP1 r.v (usedL r.u) s r.h[s] && (List.range s).all fun t => !clB (clashL r.u) s t || r.h[s] != homeN r.h t)) := hid (by rw [homOne_eq, show homeN r.h (s : Int) = r.h[s] from getD_in hsl2])
          have HP1 : Hid (homP1 r.v (usedL r.u) s r.h[s] = ((r.h[s] == -1 && !(usedL r.u).contains (s : Int)) || inN r.h[s] 0 (r.v.slots - 1) || (decide (r.h[s] ≤ -2) && inN (-2 - r.h[s]) 0 (r.v.frame - 1)))) := hid rfl
          have hlk := HQ.out.hs.hasT Tryz.underlying156 (k := (s : Int)) (by omega)
          have HF1s := hid (HF1.out s hsl2)
          have HGR := hid (HGE.out wr HB.out)
          obtain ⟨_, _, _, v3, v4, _, _⟩ := box7 HQ.out.hb.hv
          obtain ⟨x, hx⟩ : ∃ x, x = r.h[s] := ⟨_, rfl⟩
          rw [← hx] at HO1 HP1 hxw h0
          have HX := hid hx
          clear hx
          have HWB := hid (fun w => HWI.out x 0 (r.v.slots - 1) w)
          have HWC := hid (fun w => HWI.out (-2 - x) 0 (r.v.frame - 1) w)
          have e1 : IntKind.i64.wrap (r.v.slots - 1) = r.v.slots - 1 := wrapk (by omega)
          have e2 : IntKind.i64.wrap (r.v.frame - 1) = r.v.frame - 1 := wrapk (by omega)
          have hend : ∀ q : Bool, homP1 r.v (usedL r.u) s x = q → (q = false → o = none) := fun q hq h => HF1s.out (by rw [HO1.out, hq, h]; rfl)
          have HEND := hid hend
          clear hend
          have hfr0 : (0 : Int) ≤ 0 := by omega
          go_upto_region 7 with fail
          go_cut [] from 94 to 121 (fun wy => wy = wr ∧ Hid (homP1 r.v (usedL r.u) s x = true))
          case first =>
            rcases (show 0 ≤ x ∨ x = -1 ∨ x ≤ -2 by omega) with hx0 | hx0 | hx0
            · have dm : (x == -1) = false := by simp only [beq_eq_false_iff_ne, ne_eq]; omega
              have dl : ¬ x ≤ -2 := by omega
              cases hbb : inN x 0 (r.v.slots - 1) with
              | true =>
                have HPT : Hid (homP1 r.v (usedL r.u) s x = true) := hid (by rw [HP1.out, dm, hbb]; simp)
                rw [hbb] at HWB
                clear hbb
                go_wp2_with (first
                  | (go_at_call 43; first | ((with_reducible refine (HWB.out _).mono ?_); rintro e w3 ⟨rfl, rfl⟩) | ((with_reducible refine (HWC.out _).mono ?_); rintro e w3 ⟨rfl, rfl⟩))
                  | (go_at_call 185; (with_reducible refine (must_yes _).mono ?_); rintro e w8 ⟨rfl, rfl⟩))
                go_meet
                exact ⟨rfl, HPT⟩
              | false =>
                have HPF : Hid (homP1 r.v (usedL r.u) s x = false) := hid (by rw [HP1.out, dm, hbb, decide_eq_false dl]; simp)
                rw [hbb] at HWB
                clear hbb
                go_wp2_with (first
                  | (go_at_call 43; first | ((with_reducible refine (HWB.out _).mono ?_); rintro e w3 ⟨rfl, rfl⟩) | ((with_reducible refine (HWC.out _).mono ?_); rintro e w3 ⟨rfl, rfl⟩))
                  | (go_at_call 185; (with_reducible refine (must_no _).mono ?_); rintro e w8 ⟨rfl, rfl⟩))
                exact ⟨rfl, HGR.out, by rw [HEND.out false HPF.out rfl]⟩
            · have dm : (x == -1) = true := by simpa using hx0
              have dl : ¬ x ≤ -2 := by omega
              have hbb : inN x 0 (r.v.slots - 1) = false := by unfold inN; rw [decide_eq_false (show ¬ 0 ≤ x by omega)]; rfl
              cases hcc : (usedL r.u).contains (s : Int) with
              | false =>
                have HPT : Hid (homP1 r.v (usedL r.u) s x = true) := hid (by rw [HP1.out, dm, hcc]; simp)
                rw [hbb] at HWB
                rw [hcc] at hlk
                clear hbb hcc hx0
                go_wp2_with (first
                  | (go_at_call 43; first | ((with_reducible refine (HWB.out _).mono ?_); rintro e w3 ⟨rfl, rfl⟩) | ((with_reducible refine (HWC.out _).mono ?_); rintro e w3 ⟨rfl, rfl⟩))
                  | (go_at_call 185; (with_reducible refine (must_yes _).mono ?_); rintro e w8 ⟨rfl, rfl⟩))
                go_meet
                exact ⟨rfl, HPT⟩
              | true =>
                have HPF : Hid (homP1 r.v (usedL r.u) s x = false) := hid (by rw [HP1.out, dm, hcc, hbb, decide_eq_false dl]; simp)
                rw [hbb] at HWB
                rw [hcc] at hlk
                clear hbb hcc hx0
                go_wp2_with (first
                  | (go_at_call 43; first | ((with_reducible refine (HWB.out _).mono ?_); rintro e w3 ⟨rfl, rfl⟩) | ((with_reducible refine (HWC.out _).mono ?_); rintro e w3 ⟨rfl, rfl⟩))
                  | (go_at_call 185; (with_reducible refine (must_no _).mono ?_); rintro e w8 ⟨rfl, rfl⟩))
                exact ⟨rfl, HGR.out, by rw [HEND.out false HPF.out rfl]⟩
            · have dm : (x == -1) = false := by simp only [beq_eq_false_iff_ne, ne_eq]; omega
              have hbb : inN x 0 (r.v.slots - 1) = false := by unfold inN; rw [decide_eq_false (show ¬ 0 ≤ x by omega)]; rfl
              have e3 : IntKind.i64.wrap (-2 - x) = -2 - x := wrapk (by omega)
              cases hcc : inN (-2 - x) 0 (r.v.frame - 1) with
              | true =>
                have HPT : Hid (homP1 r.v (usedL r.u) s x = true) := hid (by rw [HP1.out, dm, hbb, hcc, decide_eq_true hx0]; simp)
                rw [hbb] at HWB
                rw [hcc] at HWC
                clear hbb hcc
                go_wp2_with (first
                  | (go_at_call 43; first | ((with_reducible refine (HWB.out _).mono ?_); rintro e w3 ⟨rfl, rfl⟩) | ((with_reducible refine (HWC.out _).mono ?_); rintro e w3 ⟨rfl, rfl⟩))
                  | (go_at_call 185; (with_reducible refine (must_yes _).mono ?_); rintro e w8 ⟨rfl, rfl⟩))
                go_meet
                exact ⟨rfl, HPT⟩
              | false =>
                have HPF : Hid (homP1 r.v (usedL r.u) s x = false) := hid (by rw [HP1.out, dm, hbb, hcc, decide_eq_true hx0]; simp)
                rw [hbb] at HWB
                rw [hcc] at HWC
                clear hbb hcc
                go_wp2_with (first
                  | (go_at_call 43; first | ((with_reducible refine (HWB.out _).mono ?_); rintro e w3 ⟨rfl, rfl⟩) | ((with_reducible refine (HWC.out _).mono ?_); rintro e w3 ⟨rfl, rfl⟩))
                  | (go_at_call 185; (with_reducible refine (must_no _).mono ?_); rintro e w8 ⟨rfl, rfl⟩))
                exact ⟨rfl, HGR.out, by rw [HEND.out false HPF.out rfl]⟩
          case rest =>
            obtain ⟨hwc, HPT⟩ := hcut
            subst hwc
            clear HWB HWC HP1 hlk e1 e2 v3 v4 hfr0
            have HXG : Hid (homeN r.h (s : Int) = x) := hid (by rw [HX.out]; exact getD_in hsl2)
            go_upto_region 9 with fail
            clear h0
            go_loopg [123] s (fun gh s123 wy => ∃ t : Nat, t ≤ s ∧ gh = s - t ∧ s123 = .int .i64 t ∧ Hid (Below wc.heap.size wc wy) ∧ Hid (∀ k, k < t → (!clB (clashL r.u) s k || x != homeN r.h (k : Nat)) = true))
            case atStart => exact ⟨0, Nat.zero_le _, rfl, rfl, hid (Below.refl _ _), hid (fun k h => absurd h (Nat.not_lt_zero _))⟩
            case round =>
              obtain ⟨t, ht, rfl, rfl, HBT, HPt⟩ := hrel
              by_cases hts : t < s
              · have nt : (t : Int) < (s : Int) := by omega
                have htl : t < r.h.length := by omega
                have ntl : (t : Int) < (r.h.length : Int) := by omega
                have HQT := hid (HQ.out.below HBT.out)
                have hcs := (HRH.out wr HQT.out.hb.hi.hb s hsl2).trans (congrArg (fun z => some (Value.int .i64 z)) HX.out.symm)
                have hct := HRH.out wr HQT.out.hb.hi.hb t htl
                have HCC := hid (clash_any s t b6 (clashL r.u) wr.drew (HQT.out.hp.below (bdrew wr)) (by omega) (by omega))
                have HG2 := hid (((HGR.out.andThen (grown_ofB HBT.out none) (fun _ e => by cases e))).andThen (grown_ofB (bdrew wr) none) (fun _ e => by cases e))
                have HBad : Hid (clB (clashL r.u) s t = true → x = r.h[t] → o = none) := hid (fun hc he => HF1s.out (by
                  rw [HO1.out, all_false hts (by rw [hc, show homeN r.h (t : Int) = r.h[t] from getD_in htl, he]; simp)]
                  simp))
                have HGood : Hid ((clB (clashL r.u) s t = false ∨ x ≠ r.h[t]) → ∀ k, k < t + 1 → (!clB (clashL r.u) s k || x != homeN r.h (k : Nat)) = true) := hid (fun hc k hk => by
                  by_cases e : k < t
                  · exact HPt.out k e
                  · obtain rfl : k = t := by omega
                    rcases hc with hc | hc
                    · rw [hc]; rfl
                    · rw [show homeN r.h (k : Int) = r.h[k] from getD_in htl]
                      simp [hc])
                generalize r.h[t] = y at *
                cases hc : clB (clashL r.u) s t with
                | false =>
                  rw [hc] at HCC
                  have HG3 := hid (HGood.out (.inl hc))
                  clear hc
                  go_upto_region 11 with fail
                  go_still_tail 16, (by kernel_rfl)
                  still_call HCC.out
                  repeat still_step
                  refine wpStill_nil ?_
                  change wpList _ _ _ _ _ wr.drew
                  go_wp2_with (first
                    | (go_at_call 185; (with_reducible refine (must_yes _).mono ?_); rintro e w8 ⟨rfl, rfl⟩))
                  go_roundg (s - (t + 1))
                  case measure => omega
                  case rel => exact ⟨t + 1, by omega, rfl, by go_num, hid (HBT.out.step (bdrew _)), HG3⟩
                | true =>
                  rw [hc] at HCC
                  by_cases hxy : x = y
                  · have HE := hid (HBad.out hc hxy)
                    have d : (x != y) = false := by rw [hxy]; simp
                    clear hc hxy
                    go_upto_region 11 with fail
                    go_still_tail 16, (by kernel_rfl)
                    still_call HCC.out
                    repeat still_step
                    refine wpStill_nil ?_
                    change wpList _ _ _ _ _ wr.drew
                    go_wp2_with (first
                      | (go_at_call 185; (with_reducible refine (must_no _).mono ?_); rintro e w8 ⟨rfl, rfl⟩))
                    exact ⟨rfl, HG2.out, by rw [HE.out]⟩
                  · have HG3 := hid (HGood.out (.inr hxy))
                    have d : (x != y) = true := by simpa using hxy
                    clear hc hxy
                    go_upto_region 11 with fail
                    go_still_tail 16, (by kernel_rfl)
                    still_call HCC.out
                    repeat still_step
                    refine wpStill_nil ?_
                    change wpList _ _ _ _ _ wr.drew
                    go_wp2_with (first
                      | (go_at_call 185; (with_reducible refine (must_yes _).mono ?_); rintro e w8 ⟨rfl, rfl⟩))
                    go_roundg (s - (t + 1))
                    case measure => omega
                    case rel => exact ⟨t + 1, by omega, rfl, by go_num, hid (HBT.out.step (bdrew _)), HG3⟩
              · obtain rfl : t = s := by omega
                have nt : ¬ (t : Int) < (t : Int) := by omega
                have HOT : Hid (homOne r.v r.h (clashL r.u) (usedL r.u) t = true) := hid (by
                  rw [HO1.out, HPT.out, Bool.true_and]
                  exact List.all_eq_true.2 fun k hk => HPt.out k (List.mem_range.1 hk))
                go_wp2
                go_roundg (r.h.length - (t + 1))
                case measure => omega
                case rel => exact ⟨t + 1, by omega, rfl, by go_num, hid (HB.out.step HBT.out), hid (fun k hk => by
                  by_cases e : k < t
                  · exact HP.out k e
                  · obtain rfl : k = t := by omega
                    exact HOT.out)⟩
        · obtain rfl : s = r.h.length := by omega
          have ns : ¬ (r.h.length : Int) < (r.h.length : Int) := by omega
          have HQ := hid (HQ0.out.below HB.out)
          have HALL := hid (fun k (hk : k < r.h.length) => HP.out k hk)
          obtain ⟨n, hn⟩ : ∃ n : Nat, r.u.args = (n : Int) := ⟨r.u.args.toNat, by omega⟩
          have HN := hid hn
          have hn2 : n ≤ 200 := by omega
          have hnl : n ≤ r.h.length := by have := HL.out.1; omega
          rw [show r.u.args.toNat = n by omega] at HF2 HOK
          clear hn
          have HGR := hid (HGE.out wr HB.out)
          have hlv : 0 < (liveL r.u).length := by rw [hgo.len]; exact hl0
          obtain ⟨b4, off4, ai, ci, hva, _, hc4, hr4, _, _⟩ := (HM.out.ml.below HQ.out.hb.hi.hb) 0 hlv
          have HVA := hid hva
          have HR0 : Hid ((liveL r.u).getD 0 [] = (liveL r.u)[0]) := hid (getD_in hlv)
          rw [HR0.out] at HF2 HOK
          have hr0 : (liveL r.u)[0].length ≤ 200 := by have := live_few hw 0; rw [HR0.out] at this; exact this
          have HC4 : Hid (wr.cell? ⟨b4, off4, none⟩ = some (.slice ai (liveL r.u)[0].length ci)) := hid (by simpa using hc4)
          have HR4 := hid hr4
          have nlv : (0 : Int) < ((liveL r.u).length : Int) := by omega
          clear hva hc4 hr4 HR0
          have HAE : Hid (∀ i (hi : i < r.h.length), homArg r.v r.h (liveL r.u)[0] i = if r.v.frame = 0 then r.h[i] == (i : Int) else decide ((i : Int) < r.v.frame) && ((List.range r.h.length).all fun t => homeN r.h t != -2 - (i : Int) || t == i || !(liveL r.u)[0].contains (t : Int)) && (decide (0 ≤ r.h[i]) || r.h[i] == -2 - (i : Int))) := hid (fun i hi => by unfold homArg; rw [show homeN r.h (i : Int) = r.h[i] from getD_in hi])
          generalize (liveL r.u)[0] = r0 at *
          obtain ⟨_, _, u2, _, _, _, _⟩ := box7 HQ.out.hb.hu
          rw [HN.out] at u2
          go_upto_region 15 with fail
          clear u2
          go_loopg [147] n (fun gh s147 wy => ∃ i : Nat, i ≤ n ∧ gh = n - i ∧ s147 = .int .i64 i ∧ Hid (Below wr.heap.size wr wy) ∧ Hid (∀ k, k < i → homArg r.v r.h r0 k = true))
          case atStart => exact ⟨0, Nat.zero_le _, rfl, rfl, hid (Below.refl _ _), hid (fun k h => absurd h (Nat.not_lt_zero _))⟩
          case round =>
            obtain ⟨i, hi, rfl, rfl, HBI, HPI⟩ := hrel
            by_cases hin : i < n
            · have ni : (i : Int) < (n : Int) := by omega
              have hil : i < r.h.length := by omega
              have nil : (i : Int) < (r.h.length : Int) := by omega
              have HQI := hid (HQ.out.below HBI.out)
              have hci := HRH.out wr HQI.out.hb.hi.hb i hil
              have HGI := hid (HGR.out.andThen (grown_ofB HBI.out none) (fun _ e => by cases e))
              have HA := hid (HAE.out i hil)
              have HNX : Hid (homArg r.v r.h r0 i = true → ∀ k, k < i + 1 → homArg r.v r.h r0 k = true) := hid (fun h k hk => by
                by_cases e : k < i
                · exact HPI.out k e
                · obtain rfl : k = i := by omega
                  exact h)
              have HF2i := hid (HF2.out i hin)
              obtain ⟨x, hx⟩ : ∃ x, r.h[i] = x := ⟨_, rfl⟩
              have HXX := hid hx
              rw [hx] at hci HA
              clear hx
              obtain ⟨_, _, _, _, v4, _, _⟩ := box7 HQI.out.hb.hv
              by_cases hf0 : r.v.frame = 0
              · rw [if_pos hf0] at HA
                rw [hf0] at v4
                by_cases hxi : x = (i : Int)
                · have d : (x == (i : Int)) = true := by simpa using hxi
                  have HG3 := hid (HNX.out (HA.out.trans d))
                  clear hxi hf0
                  go_wp2_with (first
                    | (go_at_call 185; (with_reducible refine (must_yes _).mono ?_); rintro e w8 ⟨rfl, rfl⟩))
                  go_roundg (n - (i + 1))
                  case measure => omega
                  case rel => exact ⟨i + 1, by omega, rfl, by go_num, HBI, HG3⟩
                · have d : (x == (i : Int)) = false := by simpa using hxi
                  have HE := hid (HF2i.out (HA.out.trans d))
                  clear hxi hf0
                  go_wp2_with (first
                    | (go_at_call 185; (with_reducible refine (must_no _).mono ?_); rintro e w8 ⟨rfl, rfl⟩))
                  exact ⟨rfl, HGI.out, by rw [HE.out]⟩
              · rw [if_neg hf0] at HA
                have df : (r.v.frame == 0) = false := by simpa using hf0
                clear hf0
                by_cases hif : (i : Int) < r.v.frame
                · rw [decide_eq_true hif, Bool.true_and] at HA
                  have e1 : IntKind.i64.wrap (-2 - (i : Int)) = -2 - (i : Int) := wrapk (by omega)
                  go_upto_region 21 with (first
                    | (go_at_call 185; (with_reducible refine (must_yes _).mono ?_); rintro e w8 ⟨rfl, rfl⟩))
                  clear v4 hci
                  go_loopg [167] r.h.length (fun gh s167 wz => ∃ t : Nat, t ≤ r.h.length ∧ gh = r.h.length - t ∧ s167 = .int .i64 t ∧ Hid (Below w8.heap.size w8 wz) ∧ Hid (∀ k, k < t → (homeN r.h (k : Nat) != -2 - (i : Int) || k == i || !r0.contains (k : Int)) = true))
                  case atStart => exact ⟨0, Nat.zero_le _, rfl, rfl, hid (Below.refl _ _), hid (fun k h => absurd h (Nat.not_lt_zero _))⟩
                  case round =>
                    obtain ⟨t, ht, rfl, rfl, HBT, HPT⟩ := hrel
                    have HQT := hid (HQI.out.below HBT.out)
                    have HGT := hid (HGI.out.andThen (grown_ofB HBT.out none) (fun _ e => by cases e))
                    by_cases htl : t < r.h.length
                    · have ntl : (t : Int) < (r.h.length : Int) := by omega
                      have hct := HRH.out wr HQT.out.hb.hi.hb t htl
                      have k7 : wr.cell? ⟨w0.heap.size, 7, none⟩ = some (.slice (some ⟨b4, off4, none⟩) (liveL r.u).length r.vc) := (cell_of_row _ _ 7 _ _ _ HQT.out.hb.hi.hr).trans (by rw [← HVA.out]; rfl)
                      have c4 := cell_later (HBI.out.step HBT.out) HC4.out
                      have HCT := hid (contains_any r0 (t : Int) ai ci wr (HR4.out.below (HBI.out.step HBT.out)) (by omega))
                      have HNT : Hid ((homeN r.h (t : Int) != -2 - (i : Int) || t == i || !r0.contains (t : Int)) = true → ∀ k, k < t + 1 → (homeN r.h (k : Nat) != -2 - (i : Int) || k == i || !r0.contains (k : Int)) = true) := hid (fun h k hk => by
                        by_cases e : k < t
                        · exact HPT.out k e
                        · obtain rfl : k = t := by omega
                          exact h)
                      have HBD : Hid ((homeN r.h (t : Int) != -2 - (i : Int) || t == i || !r0.contains (t : Int)) = false → o = none) := hid (fun h => HF2i.out (by rw [HA.out, all_false htl h]; rfl))
                      rw [show homeN r.h (t : Int) = r.h[t] from getD_in htl] at HNT HBD
                      generalize r.h[t] = y at *
                      by_cases hy : y = -2 - (i : Int)
                      · have d1 : (y != -2 - (i : Int)) = false := by rw [hy]; simp
                        by_cases hti : t = i
                        · have d2 : ((t : Int) == (i : Int)) = true := by rw [hti]; simp
                          have HG4 := hid (HNT.out (by rw [hti]; simp))
                          clear hy hti
                          go_wp2_with (first
                            | (go_at_call 141; (with_reducible refine HCT.out.mono ?_); rintro e w7 ⟨rfl, rfl⟩)
                            | (go_at_call 185; (with_reducible refine (must_yes _).mono ?_); rintro e w9 ⟨rfl, rfl⟩))
                          go_roundg (r.h.length - (t + 1))
                          case measure => omega
                          case rel => exact ⟨t + 1, by omega, rfl, by go_num, HBT, HG4⟩
                        · have d2 : ((t : Int) == (i : Int)) = false := by simp only [beq_eq_false_iff_ne, ne_eq]; omega
                          have d3 : (t == i) = false := by simpa using hti
                          cases hc : r0.contains (t : Int) with
                          | false =>
                            have HG4 := hid (HNT.out (by rw [d1, d3, hc]; rfl))
                            rw [hc] at HCT
                            clear hc hy hti d3
                            go_wp2_with (first
                              | (go_at_call 141; (with_reducible refine HCT.out.mono ?_); rintro e w7 ⟨rfl, rfl⟩)
                              | (go_at_call 185; (with_reducible refine (must_yes _).mono ?_); rintro e w9 ⟨rfl, rfl⟩))
                            go_roundg (r.h.length - (t + 1))
                            case measure => omega
                            case rel => exact ⟨t + 1, by omega, rfl, by go_num, HBT, HG4⟩
                          | true =>
                            have HE := hid (HBD.out (by rw [d1, d3, hc]; rfl))
                            rw [hc] at HCT
                            clear hc hy hti d3
                            go_wp2_with (first
                              | (go_at_call 141; (with_reducible refine HCT.out.mono ?_); rintro e w7 ⟨rfl, rfl⟩)
                              | (go_at_call 185; (with_reducible refine (must_no _).mono ?_); rintro e w9 ⟨rfl, rfl⟩))
                            exact ⟨rfl, HGT.out, by rw [HE.out]⟩
                      · have d1 : (y != -2 - (i : Int)) = true := by simpa using hy
                        have HG4 := hid (HNT.out (by rw [d1]; rfl))
                        clear hy
                        go_wp2_with (first
                          | (go_at_call 141; (with_reducible refine HCT.out.mono ?_); rintro e w7 ⟨rfl, rfl⟩)
                          | (go_at_call 185; (with_reducible refine (must_yes _).mono ?_); rintro e w9 ⟨rfl, rfl⟩))
                        go_roundg (r.h.length - (t + 1))
                        case measure => omega
                        case rel => exact ⟨t + 1, by omega, rfl, by go_num, HBT, HG4⟩
                    · obtain rfl : t = r.h.length := by omega
                      have ntl : ¬ (r.h.length : Int) < (r.h.length : Int) := by omega
                      have hci := HRH.out wr HQT.out.hb.hi.hb i hil
                      have HXI : Hid (r.h[i] = x) := HXX
                      rw [HXI.out] at hci
                      have HA2 : Hid (homArg r.v r.h r0 i = (decide (0 ≤ x) || x == -2 - (i : Int))) := hid (by
                        rw [HA.out, List.all_eq_true.2 (fun k hk => HPT.out k (List.mem_range.1 hk))]
                        rfl)
                      by_cases hx0 : 0 ≤ x
                      · have HG3 := hid (HNX.out (by rw [HA2.out, decide_eq_true hx0]; rfl))
                        go_wp2_with (first
                          | (go_at_call 185; (with_reducible refine (must_yes _).mono ?_); rintro e w9 ⟨rfl, rfl⟩))
                        go_roundg (n - (i + 1))
                        case measure => omega
                        case rel => exact ⟨i + 1, by omega, rfl, by go_num, hid (HBI.out.step HBT.out), HG3⟩
                      · by_cases hx2 : x = -2 - (i : Int)
                        · have d5 : (x == -2 - (i : Int)) = true := by simpa using hx2
                          have HG3 := hid (HNX.out (by rw [HA2.out, d5]; simp))
                          clear hx2
                          go_wp2_with (first
                            | (go_at_call 185; (with_reducible refine (must_yes _).mono ?_); rintro e w9 ⟨rfl, rfl⟩))
                          go_roundg (n - (i + 1))
                          case measure => omega
                          case rel => exact ⟨i + 1, by omega, rfl, by go_num, hid (HBI.out.step HBT.out), HG3⟩
                        · have d5 : (x == -2 - (i : Int)) = false := by simpa using hx2
                          have HE := hid (HF2i.out (by rw [HA2.out, d5, decide_eq_false hx0]; rfl))
                          clear hx2
                          go_wp2_with (first
                            | (go_at_call 185; (with_reducible refine (must_no _).mono ?_); rintro e w9 ⟨rfl, rfl⟩))
                          exact ⟨rfl, HGT.out, by rw [HE.out]⟩
                · rw [decide_eq_false hif] at HA
                  have HE := hid (HF2i.out (by rw [HA.out]; rfl))
                  go_wp2_with (first
                    | (go_at_call 185; (with_reducible refine (must_no _).mono ?_); rintro e w8 ⟨rfl, rfl⟩))
                  exact ⟨rfl, HGI.out, by rw [HE.out]⟩
            · obtain rfl : i = n := by omega
              have ni : ¬ (i : Int) < (i : Int) := by omega
              have HFIN := hid (HOK.out (fun s hs => HALL.out s hs) (fun k hk => HPI.out k hk))
              have HIE := hid ((HQ.out.below HBI.out).hb.hi)
              have HGI := hid (HGR.out.andThen (grown_ofB HBI.out none) (fun _ e => by cases e))
              go_wp2
              go_end0
              exact ⟨HGI.out, by rw [HFIN.out]; exact ⟨rfl, HIE.out⟩⟩
end Go.Proofs.YtgalekifgnecjaaGreat
