/- The reader of package regs: the guards, what is taken. The reader of package regs: the homes of slots. -/
import Derived.Test.YtgalekifgnecjaaGreatT8
import Derived.BigQuiet
import Derived.Test.YtgalekifgnecjaaGreatS6
import Derived.BigRegion
namespace Go.Proofs.YtgalekifgnecjaaGreat
open Go.RowKit

open Go.RowKit Go.Shelf
attribute [local go_sem] Oper.semAt_some
theorem grd_some {u v : UntN} {t : List Int} (hl : v.guards.length = u.guards.length) (h : ∀ k (hk : k < u.guards.length), v.guards[k]'(by omega) = grdTo u t v.code.length u.guards[k]) : grdsB u v t = true := by
  unfold grdsB
  refine decide_eq_true (List.ext_getElem (by rw [List.length_map, hl]) fun k h1 h2 => ?_)
  rw [List.getElem_map]
  exact h k (by omega)
theorem grd_none {u v : UntN} {t : List Int} {k : Nat} (h1 : k < v.guards.length) (h2 : k < u.guards.length) (h : v.guards[k] ≠ grdTo u t v.code.length u.guards[k]) : grdsB u v t = false := by
  unfold grdsB
  refine decide_eq_false fun e => h ?_
  have := List.getElem_of_eq e h1
  rw [List.getElem_map] at this
  exact this
theorem grd_len {u v : UntN} {t : List Int} (h : v.guards.length ≠ u.guards.length) : grdsB u v t = false := by
  unfold grdsB
  refine decide_eq_false fun e => h ?_
  rw [e, List.length_map]
set_option maxRecDepth 100000 in
set_option maxHeartbeats 8000000 in
theorem guards_any (w0 : World) (r : RdrN) (a : Nat) (w : World) (hm : RdrM w0 r) (h : RI w0 r a w) (hp : plainB r.u = true) (ht : r.t.length = r.u.code.length) (_hv : r.v.guards.length ≤ 1000000) (_hvc : r.v.code.length ≤ 1000000) :
    Calls Tryz.prog 186 #[.pointer (some ⟨w0.heap.size, 0, none⟩)] w (RP w0 r (if grdsB r.u r.v r.t = true then some a else none) w) := by
  have HM := hid hm
  have HI := hid h
  obtain ⟨hl0, hl6, hl4, _⟩ := plain_leads hp
  have HPA := hid (fun g (hg : g < r.u.guards.length) => plain_at hp hg)
  have HT := hid ht
  clear hm h ht hp
  obtain ⟨o, ho⟩ : ∃ o, o = if grdsB r.u r.v r.t = true then some a else none := ⟨_, rfl⟩
  rw [← ho]
  have HOO := hid ho
  clear ho
  have k14 : w.cell? ⟨w0.heap.size, 14, none⟩ = some (.slice r.ea r.v.guards.length r.ec) := (cell_of_row _ _ 14 _ _ _ HI.out.hr).trans rfl
  have k6 : w.cell? ⟨w0.heap.size, 6, none⟩ = some (.slice r.ga r.u.guards.length r.gc) := (cell_of_row _ _ 6 _ _ _ HI.out.hr).trans rfl
  by_cases hlen : r.v.guards.length = r.u.guards.length
  case neg =>
    have HE := hid (grd_len (t := r.t) hlen)
    have d : ((r.v.guards.length : Int) == (r.u.guards.length : Int)) = false := by
      simp only [beq_eq_false_iff_ne, ne_eq]
      omega
    clear hlen
    go_enter Tryz.func186, Tryz.ntmps186
    go_upto_region 0 with fail
    go_still_tail 14, (by kernel_rfl)
    change wpList _ _ _ _ _ w.drew
    go_wp2_with (first
      | (go_at_call 185; (with_reducible refine (must_no _).mono ?_); rintro e w' ⟨rfl, rfl⟩))
    exact ⟨rfl, grown_ofB (bdrew _) _, by rw [HOO.out, HE.out]; rfl⟩
  case pos =>
    have d : ((r.v.guards.length : Int) == (r.u.guards.length : Int)) = true := by rw [hlen]; simp
    have HLEN := hid hlen
    have hle : r.v.guards.length ≤ r.u.guards.length := by omega
    have hge : r.u.guards.length ≤ r.v.guards.length := by omega
    have HBB := hid (bdrew w)
    go_enter Tryz.func186, Tryz.ntmps186
    go_upto_region 0 with fail
    go_still_tail 14, (by kernel_rfl)
    change wpList _ _ _ _ _ w.drew
    go_upto_region 1 with (first
      | (go_at_call 185; (with_reducible refine (must_yes _).mono ?_); rintro e w' ⟨rfl, rfl⟩))
    clear d hlen
    generalize w.drew = w1 at *
    have HI1 := hid (HI.out.below HBB.out)
    clear k14 k6
    have k6 : w1.cell? ⟨w0.heap.size, 6, none⟩ = some (.slice r.ga r.u.guards.length r.gc) := (cell_of_row _ _ 6 _ _ _ HI1.out.hr).trans rfl
    go_upto_region 2 with fail
    clear k6
    go_loopg [27] r.u.guards.length (fun gh s27 wr => ∃ i : Nat, i ≤ r.u.guards.length ∧ gh = r.u.guards.length - i ∧ s27 = .int .i64 i ∧ Hid (Below w1.heap.size w1 wr) ∧ Hid (∀ k (hk : k < r.u.guards.length), k < i → r.v.guards[k]'(by omega) = grdTo r.u r.t r.v.code.length r.u.guards[k]))
    case atStart => exact ⟨0, Nat.zero_le _, rfl, rfl, hid (Below.refl _ _), hid (fun k hk h => absurd h (Nat.not_lt_zero _))⟩
    case round =>
      obtain ⟨i, hi, rfl, rfl, HB, HQ⟩ := hrel
      by_cases hig : i < r.u.guards.length
      · have ni : (i : Int) < (r.u.guards.length : Int) := by omega
        have hiv : i < r.v.guards.length := by omega
        have niv : (i : Int) < (r.v.guards.length : Int) := by omega
        have HIR := hid (HI1.out.below HB.out)
        obtain ⟨hat0, hat1, hf0, hf1⟩ := HPA.out i hig
        obtain ⟨bg, og, hga, _, g0, g1, g2⟩ := (HM.out.mu.rg.below HIR.out.hb) i hig
        have HHG := hid hga
        have HGT := hid (show grdTo r.u r.t r.v.code.length r.u.guards[i] = ⟨r.t.getD r.u.guards[i].frm.toNat 0, if r.u.guards[i].til < r.u.code.length then r.t.getD r.u.guards[i].til.toNat 0 else r.v.code.length, r.t.getD r.u.guards[i].at'.toNat 0⟩ from rfl)
        have HQF := hid (fun (h : r.v.guards[i] ≠ grdTo r.u r.t r.v.code.length r.u.guards[i]) => grd_none hiv hig h)
        obtain ⟨be, oe, hea, _, e0, e1, e2⟩ := (HM.out.mv.rg.below HIR.out.hb) i hiv
        have HHE := hid hea
        have HQ2 : Hid (r.v.guards[i] = grdTo r.u r.t r.v.code.length r.u.guards[i] → ∀ k (hk : k < r.u.guards.length), k < i + 1 → r.v.guards[k]'(by omega) = grdTo r.u r.t r.v.code.length r.u.guards[k]) := hid (fun e k hk hki => by
          by_cases h : k < i
          · exact HQ.out k hk h
          · obtain rfl : k = i := by omega
            exact e)
        have HGC := hid (fun (w' : World) (hb : Below w0.heap.size w0 w') => (HM.out.mu.rg.below hb) i hig)
        have HVC := hid (fun (w' : World) (hb : Below w0.heap.size w0 w') => (HM.out.mv.rg.below hb) i hiv)
        rw [HHG.out] at HGC
        rw [HHE.out] at HVC
        generalize grdTo r.u r.t r.v.code.length r.u.guards[i] = gt at *
        generalize r.u.guards[i] = g at *
        generalize r.v.guards[i] = y at *
        clear g0 g1 g2 e0 e1 e2 hga hea
        rw [HHG.out]
        obtain ⟨bg2, og2, hq, _, g0, g1, g2⟩ := HGC.out wr HIR.out.hb
        cases hq
        go_upto_region 4 with fail
        obtain ⟨wx, hwx⟩ : ∃ wx, wx = wr.alloc (.cells #[.int .i64 g.frm, .int .i64 g.til, .int .i64 g.at'] 90) := ⟨_, rfl⟩
        obtain ⟨bx, hbx⟩ : ∃ b, b = wr.heap.size := ⟨_, rfl⟩
        have HXX : Hid (wx.heap[bx]? = some (.cells #[.int .i64 g.frm, .int .i64 g.til, .int .i64 g.at'] 90)) := hid (by rw [hwx]; exact heapn _ _ _ hbx)
        have HBX : Hid (Below w1.heap.size w1 wx) := hid (by rw [hwx]; exact HB.out.step (bnew _ _))
        rw [← hbx, ← hwx]
        clear hwx hbx g0 g1 g2
        have HIX := hid (HI1.out.below HBX.out)
        obtain ⟨x0, x1, x2, _⟩ := box3 HXX.out
        have k5 : wx.cell? ⟨w0.heap.size, 5, none⟩ = some (.slice r.ca r.u.code.length r.cc) := (cell_of_row _ _ 5 _ _ _ HIX.out.hr).trans rfl
        have k13 : wx.cell? ⟨w0.heap.size, 13, none⟩ = some (.slice r.da r.v.code.length r.dc) := (cell_of_row _ _ 13 _ _ _ HIX.out.hr).trans rfl
        have k14 : wx.cell? ⟨w0.heap.size, 14, none⟩ = some (.slice (some ⟨be, oe, none⟩) r.v.guards.length r.ec) := (cell_of_row _ _ 14 _ _ _ HIX.out.hr).trans (by rw [← HHE.out]; rfl)
        obtain ⟨be2, oe2, hq, _, e0, e1, e2⟩ := HVC.out wx HIX.out.hb
        cases hq
        have ht0 : 0 < r.t.length := by rw [HT.out]; exact hl0
        obtain ⟨bt, ot, hta, _, _⟩ := (HM.out.mt.below HIX.out.hb) 0 ht0
        have HTC := hid (fun (w' : World) (hb : Below w0.heap.size w0 w') (j : Int) (h0 : 0 ≤ j) (h1 : j < r.u.code.length) => (show ∃ k : Nat, j = (k : Int) ∧ w'.cell? ⟨bt, ot + k, none⟩ = some (.int .i64 (r.t.getD j.toNat 0)) from by
          refine ⟨j.toNat, by omega, ?_⟩
          have hj : j.toNat < r.t.length := by rw [HT.out]; omega
          obtain ⟨b2, o2, e2, _, h2⟩ := (HM.out.mt.below hb) j.toNat hj
          rw [hta] at e2
          cases e2
          rw [getD_in hj]
          exact h2))
        have k16 : wx.cell? ⟨w0.heap.size, 16, none⟩ = some (.slice (some ⟨bt, ot, none⟩) r.t.length r.tc) := (cell_of_row _ _ 16 _ _ _ HIX.out.hr).trans (by rw [← hta]; rfl)
        have htl := HT.out
        clear hta
        obtain ⟨kf, hkf, cf⟩ := HTC.out wx HIX.out.hb g.frm hf0 (by omega)
        obtain ⟨ka, hka, cA⟩ := HTC.out wx HIX.out.hb g.at' hat0 hat1
        rw [hkf] at x0
        rw [hka] at x2
        have nkf : (kf : Int) < (r.t.length : Int) := by rw [htl]; omega
        have nka : (ka : Int) < (r.t.length : Int) := by rw [htl]; omega
        have heg : Tryz.prog.eqGuardType Tryz.prog.depth 90 = false := by kernel_rfl
        have HEQ : ∀ (tz : Int) (w : World), (binOp .eql 90 (.agg #[.int .i64 y.frm, .int .i64 y.til, .int .i64 y.at']) (.agg #[.int .i64 (r.t.getD g.frm.toNat 0), .int .i64 tz, .int .i64 (r.t.getD g.at'.toNat 0)])).run Tryz.prog w = .ok (.bool (eqD y ⟨r.t.getD g.frm.toNat 0, tz, r.t.getD g.at'.toNat 0⟩)) w := fun tz w => eqG y ⟨_, tz, _⟩ w
        have HTIL := hid (fun (h : g.til < (r.u.code.length : Int)) => HTC.out wx HIX.out.hb g.til (by omega) h)
        generalize r.t.getD g.frm.toNat 0 = tf at *
        generalize r.t.getD g.at'.toNat 0 = ta at *
        clear hkf hka htl HTC
        have HGW := hid ((grown_ofB HBB.out (some w0.heap.size)).andThen (grown_ofB HBX.out none) (fun _ e => by cases e))
        have hend : ∀ (tz : Int), gt = ⟨tf, tz, ta⟩ → ∀ b, b = eqD y ⟨tf, tz, ta⟩ → (b = true → y = gt) ∧ (b = false → y ≠ gt) := fun tz h b hb => by
          rw [hb, ← h]
          unfold eqD
          exact ⟨fun h => of_decide_eq_true h, fun h => of_decide_eq_false h⟩
        have HEND := hid hend
        clear hend
        by_cases hti : g.til < (r.u.code.length : Int)
        · obtain ⟨kt, hkt, ct⟩ := HTIL.out hti
          have HG1 : Hid (gt = ⟨tf, r.t.getD g.til.toNat 0, ta⟩) := hid (HGT.out.trans (by rw [if_pos hti]))
          have nkt : (kt : Int) < (r.t.length : Int) := by rw [HT.out]; omega
          generalize r.t.getD g.til.toNat 0 = tz at *
          rw [hkt] at x1 hti
          clear hkt
          have HF := hid (fun (W : World) (hb : Below wx.heap.size wx W) => And.intro (cell_later hb x0) (And.intro (cell_later hb x1) (And.intro (cell_later hb x2) (And.intro (cell_later hb k5) (And.intro (cell_later hb k14) (And.intro (cell_later hb k16) (And.intro (cell_later hb e0) (And.intro (cell_later hb e1) (And.intro (cell_later hb e2) (And.intro (cell_later hb cf) (And.intro (cell_later hb cA) (cell_later hb ct))))))))))))
          go_upto_region 5 with fail
          go_quiet (fail)
          have HB1 := hid (bdrewN (Below.refl wx.heap.size wx) nq)
          generalize wx.drewN nq = wy at *
          clear x0 x1 x2 k5 k13 k14 k16 e0 e1 e2 cf cA ct
          obtain ⟨x0, x1, x2, k5, k14, k16, e0, e1, e2, cf, cA, ct⟩ := HF.out wy HB1.out
          go_upto_region 6 with fail
          go_quiet (fail)
          have HB2 := hid (bdrewN HB1.out nq)
          generalize wy.drewN nq = wz at *
          clear x0 x1 x2 k5 k14 k16 e0 e1 e2 cf cA ct
          obtain ⟨x0, x1, x2, k5, k14, k16, e0, e1, e2, cf, cA, ct⟩ := HF.out wz HB2.out
          go_upto_region 7 with fail
          have HEN := hid (HEND.out tz HG1.out)
          have HEQ2 := HEQ tz
          obtain ⟨bq, hbq⟩ : ∃ bq, bq = eqD y ⟨tf, tz, ta⟩ := ⟨_, rfl⟩
          rw [← hbq] at HEQ2
          replace HEN := hid (HEN.out bq hbq)
          clear hbq HEQ
          go_still_tail 29, (by kernel_rfl)
          change wpList _ _ _ _ _ wz.drew
          have HGZ := hid (HGW.out.andThen (grown_ofB (HB2.out.drew) none) (fun _ e => by cases e))
          rw [← HHG.out]
          cases hb : bq with
          | false =>
            rw [hb] at HEQ2
            go_wp2_with (first
              | (go_at_call 185; (with_reducible refine (must_no _).mono ?_); rintro e w8 ⟨rfl, rfl⟩))
            exact ⟨rfl, HGZ.out, by rw [HOO.out, if_neg (by rw [HQF.out (HEN.out.2 hb)]; exact Bool.false_ne_true)]⟩
          | true =>
            go_wp2_with (first
              | (go_at_call 185; (with_reducible refine (must_yes _).mono ?_); rintro e w8 ⟨rfl, rfl⟩))
            go_roundg (r.u.guards.length - (i + 1))
            case measure => omega
            case rel => exact ⟨i + 1, by omega, rfl, by go_num, hid (HBX.out.step HB2.out.drew), hid (HQ2.out (HEN.out.1 hb))⟩
        · have HG1 : Hid (gt = ⟨tf, r.v.code.length, ta⟩) := hid (HGT.out.trans (by rw [if_neg hti]))
          have HF := hid (fun (W : World) (hb : Below wx.heap.size wx W) => And.intro (cell_later hb x0) (And.intro (cell_later hb x1) (And.intro (cell_later hb x2) (And.intro (cell_later hb k5) (And.intro (cell_later hb k14) (And.intro (cell_later hb k16) (And.intro (cell_later hb e0) (And.intro (cell_later hb e1) (And.intro (cell_later hb e2) (And.intro (cell_later hb cf) (cell_later hb cA)))))))))))
          go_upto_region 5 with fail
          go_quiet (fail)
          have HB1 := hid (bdrewN (Below.refl wx.heap.size wx) nq)
          generalize wx.drewN nq = wy at *
          clear x0 x1 x2 k5 k13 k14 k16 e0 e1 e2 cf cA
          obtain ⟨x0, x1, x2, k5, k14, k16, e0, e1, e2, cf, cA⟩ := HF.out wy HB1.out
          go_upto_region 7 with fail
          have HEN := hid (HEND.out r.v.code.length HG1.out)
          have HEQ2 := HEQ r.v.code.length
          obtain ⟨bq, hbq⟩ : ∃ bq, bq = eqD y ⟨tf, r.v.code.length, ta⟩ := ⟨_, rfl⟩
          rw [← hbq] at HEQ2
          replace HEN := hid (HEN.out bq hbq)
          clear hbq HEQ
          go_still_tail 29, (by kernel_rfl)
          change wpList _ _ _ _ _ wy.drew
          have HGZ := hid (HGW.out.andThen (grown_ofB (HB1.out.drew) none) (fun _ e => by cases e))
          rw [← HHG.out]
          cases hb : bq with
          | false =>
            rw [hb] at HEQ2
            go_wp2_with (first
              | (go_at_call 185; (with_reducible refine (must_no _).mono ?_); rintro e w8 ⟨rfl, rfl⟩))
            exact ⟨rfl, HGZ.out, by rw [HOO.out, if_neg (by rw [HQF.out (HEN.out.2 hb)]; exact Bool.false_ne_true)]⟩
          | true =>
            go_wp2_with (first
              | (go_at_call 185; (with_reducible refine (must_yes _).mono ?_); rintro e w8 ⟨rfl, rfl⟩))
            go_roundg (r.u.guards.length - (i + 1))
            case measure => omega
            case rel => exact ⟨i + 1, by omega, rfl, by go_num, hid (HBX.out.step HB1.out.drew), hid (HQ2.out (HEN.out.1 hb))⟩
      · obtain rfl : i = r.u.guards.length := by omega
        have ni : ¬ (r.u.guards.length : Int) < (r.u.guards.length : Int) := by omega
        have HE := hid (grd_some (t := r.t) HLEN.out (fun k hk => HQ.out k hk hk))
        go_wp2
        go_end0
        exact ⟨(grown_ofB HBB.out _).andThen (grown_ofB HB.out none) (fun _ e => by cases e), by rw [HOO.out, if_pos HE.out]; exact ⟨rfl, HI1.out.below HB.out⟩⟩

/-- The first tests. -/
def homHd1 (u v : UntN) (h t : List Int) : Bool := decide ((h.length : Int) = u.slots) && t.length == u.code.length && u.cls == v.cls && u.name == v.name && u.args == v.args
def homHd2 (u v : UntN) : Bool := inN v.slots 1 u.slots && inN v.frame 0 200 && decide (v.code.length ≤ 600)
theorem homedB_eq (u v : UntN) (h t : List Int) : homedB u v h t = (homHd1 u v h t && homHd2 u v && (List.range h.length).all (homOne v h (clashL u) (usedL u)) && (List.range u.args.toNat).all (homArg v h ((liveL u).getD 0 []))) := by
  unfold homedB homHd1 homHd2
  simp only [Bool.and_assoc]
/-- The boxes of homed. -/
structure HmB (w0 : World) (r : RdrN) (a bu bv : Nat) (w : World) : Prop where
  hi : RI w0 r a w
  hu : w.heap[bu]? = some (oU r.u r.ca r.cc r.ga r.gc)
  hv : w.heap[bv]? = some (oU r.v r.da r.dc r.ea r.ec)
theorem HmB.below {w0 : World} {r : RdrN} {a bu bv : Nat} {w w' : World} (h : HmB w0 r a bu bv w) (hb : Below w.heap.size w w') : HmB w0 r a bu bv w' := ⟨h.hi.below hb, keepBox hb h.hu, keepBox hb h.hv⟩
end Go.Proofs.YtgalekifgnecjaaGreat
