/- CheckUnit of package core: its loops. -/
import Derived.Test.YtecpkjhfbmchgaaU28
import Derived.Test.YtecpkjhfbmchgaaU31
import Derived.Sort.CutIn
namespace Go.Proofs.Ytecpkjhfbmchgaa
open Go.RowKit Go.Shelf
attribute [local go_sem] Oper.semAt_some

theorem cu_leave {n : Nat} {tmps : Array Value} {Ds : List Nat} {w W : World} {b4 b5 : Nat} {v1 v2 : Int} (h4 : tmps.getD 4 undef = .pointer (some ⟨b4, 0, none⟩)) (h5 : tmps.getD 5 undef = .pointer (some ⟨b5, 0, none⟩)) (hb : Below w.heap.size w W)
    (hds : ∀ D, D ∈ Ds → w.heap.size ≤ D ∧ W.heap[D]? = some (.deferred (some []))) (nd : Ds.Nodup) (c4 : W.cell? ⟨b4, 0, none⟩ = some (.int .i64 v1)) (c5 : W.cell? ⟨b5, 0, none⟩ = some (.int .i64 v2)) :
    LeavesInM Fence.wide n Try.prog Try.f40 tmps (Ret2 (.int .i64 v1) (.int .i64 v2) w) (Ds.map markD) .returning W := by
  refine leaves_marks Ds W hb hds nd (fun W' hk hb' => ⟨_, ?_, rfl, hb'⟩)
  have d4 := hk.cell (fun h => h.elim) c4
  have d5 := hk.cell (fun h => h.elim) c5
  simp only [Array.getD_eq_getD_getElem?] at h4 h5
  simp [results, Try.results40, h4, h5, d4, d5, go_sem]
theorem cu_set2 {w1 : World} {b : Nat} {a1 a2 : Int} (h4 : w1.heap[b + 1 + 1]? = some (.cells #[.int .i64 a1] 29 (0, 0))) (h5 : w1.heap[b + 1 + 1 + 1]? = some (.cells #[.int .i64 a2] 3 (0, 0))) (v1 v2 : Int) :
    ((w1.setCell ⟨b + 1 + 1 + 1, 0, none⟩ (.int .i64 v2)).setCell ⟨b + 1 + 1, 0, none⟩ (.int .i64 v1)).cell? ⟨b + 1 + 1, 0, none⟩ = some (.int .i64 v1) ∧ ((w1.setCell ⟨b + 1 + 1 + 1, 0, none⟩ (.int .i64 v2)).setCell ⟨b + 1 + 1, 0, none⟩ (.int .i64 v1)).cell? ⟨b + 1 + 1 + 1, 0, none⟩ = some (.int .i64 v2) := by
  have e1 : (w1.setCell ⟨b + 1 + 1 + 1, 0, none⟩ (.int .i64 v2)).heap[b + 1 + 1 + 1]? = some (.cells #[.int .i64 v2] 3 (0, 0)) := heap_setCell_same _ _ 0 #[.int .i64 a2] 3 (.int .i64 v2) h5
  have e2 : ((w1.setCell ⟨b + 1 + 1 + 1, 0, none⟩ (.int .i64 v2)).setCell ⟨b + 1 + 1, 0, none⟩ (.int .i64 v1)).heap[b + 1 + 1]? = some (.cells #[.int .i64 v1] 29 (0, 0)) := heap_setCell_same _ _ 0 #[.int .i64 a1] 29 (.int .i64 v1) (by rw [heap_setCell_other _ _ _ _ (by simp)]; exact h4)
  refine ⟨(cell_of_row _ _ 0 _ _ _ e2).trans rfl, ?_⟩
  have e3 := e1
  rw [← heap_setCell_other _ ⟨b + 1 + 1, 0, none⟩ _ (.int .i64 v1) (by simp)] at e3
  exact (cell_of_row _ _ 0 _ _ _ e3).trans rfl
theorem cu_below2 {w w1 : World} (hb : Below w.heap.size w w1) (v1 v2 : Value) : Below w.heap.size w ((w1.setCell ⟨w.heap.size + 1 + 1 + 1, 0, none⟩ v2).setCell ⟨w.heap.size + 1 + 1, 0, none⟩ v1) :=
  (hb.setCell (p := ⟨w.heap.size + 1 + 1 + 1, 0, none⟩) (by show w.heap.size ≤ w.heap.size + 1 + 1 + 1; omega) _).setCell (p := ⟨w.heap.size + 1 + 1, 0, none⟩) (by show w.heap.size ≤ w.heap.size + 1 + 1; omega) _
/-- The first checks of a unit have found nothing. -/
structure ChkPre (p : PrgN) (u : UntN) : Prop where
  nb : nameE u = false
  sz : sizesN u = 0
  wr : ¬ 0 ≤ wrongE p u
  en : (formL (lastI u).op).en = true
  hd : ¬ 0 ≤ headE p u.code
theorem ChkPre.eq {p : PrgN} {u : UntN} (h : ChkPre p u) : chkU p u = if 0 ≤ grdE u then (2, grdAt u.code.length (u.guards.getD (grdE u).toNat grd0)) else if 0 ≤ jmpE p u then (2, jmpE p u) else if (depN u).isNone = true then (12, 0) else (0, 0) := by
  unfold chkU
  rw [if_neg (by rw [h.nb]; decide), if_neg (fun e => e h.sz), if_neg h.wr, if_neg (by rw [h.en]; decide), if_neg h.hd]
theorem chkU_grd {p : PrgN} {u : UntN} (h : ChkPre p u) {k : Nat} (hk : k < u.guards.length) (hb : grdBad u.code.length u.guards[k] = true) (hn : ∀ x, x ∈ u.guards.take k → grdBad u.code.length x = false) : chkU p u = (2, grdAt u.code.length u.guards[k]) := by
  have e : grdE u = (k : Int) := idxP_some hk hb hn
  rw [h.eq, e, if_pos (by omega), show ((k : Int)).toNat = k from rfl, getD_in hk]
theorem grdE_no {u : UntN} (hg : ∀ x, x ∈ u.guards → grdBad u.code.length x = false) : grdE u = -1 := idxP_none hg
theorem chkU_jmp {p : PrgN} {u : UntN} (h : ChkPre p u) (hg : ∀ x, x ∈ u.guards → grdBad u.code.length x = false) {t : Nat} (ht : t < u.code.length) (hb : jmpB p u t = true) (hn : ∀ j, j < t → jmpB p u j = false) : chkU p u = (2, (t : Int)) := by
  have e : jmpE p u = (t : Int) := idxR_yes ht hb hn
  rw [h.eq, grdE_no hg, if_neg (by omega), e, if_pos (by omega)]
theorem chkU_dep {p : PrgN} {u : UntN} (h : ChkPre p u) (hg : ∀ x, x ∈ u.guards → grdBad u.code.length x = false) (hn : ∀ j, j < u.code.length → jmpB p u j = false) : chkU p u = if (depN u).isNone = true then (12, 0) else (0, 0) := by
  have e : jmpE p u = -1 := idxR_no hn
  rw [h.eq, grdE_no hg, if_neg (by omega), e, if_neg (by omega)]
set_option maxRecDepth 100000 in
set_option maxHeartbeats 4000000 in
theorem chkU_b (p : PrgN) (q : PlN) (u : UntN) (ca : Option Addr) (cc : Nat) (ga : Option Addr) (gc : Nat) (w : World) (ho : UkOk w p q u ca cc ga gc) (hnb : nameE u = false) (hsz : sizesN u = 0) (hw9 : ¬ 0 ≤ wrongE p u) (hen : (formL (lastI u).op).en = true) (hh0 : ¬ 0 ≤ headE p u.code) :
    CallsIn Fence.wide 20 Try.prog 40 #[vP p q, vU u ca cc ga gc] w (Ret2 (.int .i64 (chkU p u).1) (.int .i64 (chkU p u).2) w) := by
  have HO := hid ho; clear ho
  obtain ⟨V1, hV1⟩ : ∃ v, v = (chkU p u).1 := ⟨_, rfl⟩
  obtain ⟨V2, hV2⟩ : ∃ v, v = (chkU p u).2 := ⟨_, rfl⟩
  rw [← hV1, ← hV2]
  have HX2 := hid (heapn w (oP p q) _ rfl)
  have HX3 := hid (heapn (w.alloc (oP p q)) (oU u ca cc ga gc) _ rfl)
  have HX4 := hid (heapn ((w.alloc (oP p q)).alloc (oU u ca cc ga gc)) (.cells #[.int .i64 0] 29) _ rfl)
  have HX5 := hid (heapn (((w.alloc (oP p q)).alloc (oU u ca cc ga gc)).alloc (.cells #[.int .i64 0] 29)) (.cells #[.int .i64 0] 3) _ rfl)
  simp only [World.size_alloc] at HX3 HX4 HX5
  replace HX2 := hid (keepBox (bnew _ (.cells #[.int .i64 0] 3)) (keepBox (bnew _ (.cells #[.int .i64 0] 29)) (keepBox (bnew _ (oU u ca cc ga gc)) HX2.out)))
  replace HX3 := hid (keepBox (bnew _ (.cells #[.int .i64 0] 3)) (keepBox (bnew _ (.cells #[.int .i64 0] 29)) HX3.out))
  replace HX4 := hid (keepBox (bnew _ (.cells #[.int .i64 0] 3)) HX4.out)
  have HB := hid ((((bnew w (oP p q)).step (bnew _ (oU u ca cc ga gc))).step (bnew _ (.cells #[.int .i64 0] 29))).step (bnew _ (.cells #[.int .i64 0] 3)))
  have HN1 := hid (fun w => named_any u.cls w HO.out.n1)
  have HN2 := hid (fun w => named_any u.name w HO.out.n2)
  refine callsIn_of_wp_marks Try.func40 rfl trivial ?_ rfl
  simp only [Try.ntmps40, List.size_toArray, List.length_cons, List.length_nil, Nat.reduceAdd, Nat.reduceSub, Array.replicate_succ, Array.replicate_zero, List.push_toArray, List.append_toArray, List.nil_append, List.cons_append]
  gi_upto_region 1 with fail
  generalize (((w.alloc (oP p q)).alloc (oU u ca cc ga gc)).alloc (.cells #[.int .i64 0] 29)).alloc (.cells #[.int .i64 0] 3) = w0 at *
  obtain ⟨k0, k1, k2, k3, k4, k5, k6⟩ := box7 HX3.out
  gi_cut [34] from 20 (fun s34 wx => s34 = .bool (nameE u) ∧ Hid (Below w0.heap.size w0 wx))
  case first =>
    have HV := hid (show nameE u = (!namedB u.cls || (!u.name.toList.isEmpty && !namedB u.name)) by unfold nameE; rw [strE])
    generalize nameE u = v at *
    cases e1 : namedB u.cls with
    | false =>
      rw [e1] at HN1 HV
      gi_wp2_with (first
        | ((try refine ⟨trivial, ?_⟩); gi_at_call 37; (with_reducible refine (callsIn_wide.2 (HN1.out _)).mono ?_); rintro e w1 ⟨rfl, hb⟩)
          | (refine ⟨trivial, ?_⟩; go_at_K))
      gi_meet
      exact ⟨by rw [HV.out]; rfl, hid hb⟩
    | true =>
      rw [e1] at HN1 HV
      cases e2 : u.name.toList.isEmpty with
      | true =>
        rw [e2] at HV
        gi_wp2_with (first
          | ((try refine ⟨trivial, ?_⟩); gi_at_call 37; (with_reducible refine (callsIn_wide.2 (HN1.out _)).mono ?_); rintro e w1 ⟨rfl, hb⟩; have j1 := cell_later hb k1)
          | (refine ⟨trivial, ?_⟩; go_at_K))
        gi_meet
        exact ⟨by rw [HV.out]; rfl, hid hb⟩
      | false =>
        rw [e2] at HV
        generalize namedB u.name = nn at *
        gi_wp2_with (first
          | ((try refine ⟨trivial, ?_⟩); gi_at_call 37; (with_reducible refine (callsIn_wide.2 (HN1.out _)).mono ?_); clear HN1; rintro e w1 ⟨rfl, hb⟩; have j1 := cell_later hb k1; have HB7 := hid hb; clear hb)
          | ((try refine ⟨trivial, ?_⟩); gi_at_call 37; (with_reducible refine (callsIn_wide.2 (HN2.out _)).mono ?_); rintro e w2 ⟨rfl, hb⟩)
          | (refine ⟨trivial, ?_⟩; go_at_K))
        gi_meet
        exact ⟨by rw [HV.out]; rfl, hid (HB7.out.step hb)⟩
  case rest =>
    obtain ⟨rfl, HB9⟩ := hcut
    have HB1 := hid (HB.out.step HB9.out)
    have HY2 := hid (keepBox HB9.out HX2.out)
    have HY3 := hid (keepBox HB9.out HX3.out)
    have HY4 := hid (keepBox HB9.out HX4.out)
    have HY5 := hid (keepBox HB9.out HX5.out)
    clear HB9 HB HX2 HX3 HX4 HX5 k0 k1 k2 k3 k4 k5 k6
    obtain ⟨k0, k1, k2, k3, k4, k5, k6⟩ := box7 HY3.out
    have X4 := (cell_of_row _ _ 0 _ _ _ HY4.out).trans rfl
    have X5 := (cell_of_row _ _ 0 _ _ _ HY5.out).trans rfl
    have F4 := boxF 0 HY4.out
    have F5 := boxF 0 HY5.out
    have HOC := hid (HO.out.um.below HB1.out)
    have HOR := hid (HO.out.rs.below HB1.out)
    have HPRE := hid (ChkPre.mk hnb hsz hw9 hen hh0)
    rw [hnb]
    have hszK := hid hsz
    have HSZ := hid (fun w => sizes_any u ca cc ga gc w)
    rw [hsz] at HSZ
    clear hsz
    obtain ⟨⟨z0, z1⟩, ⟨z2, z3⟩, ⟨z4, z5⟩, ⟨z6, z7⟩, z8, z9⟩ := sizes_fit hszK.out
    have HFU := hid (FitU.mk HO.out.h1 HO.out.h2 (by omega) ⟨by omega, by omega⟩ ⟨by omega, by omega⟩ : FitU p u)
    have HIX := hid (fun w1 (hb : Below w.heap.size w w1) (h2 : w1.heap[w.heap.size]? = some (oP p q)) (h3 : w1.heap[w.heap.size + 1]? = some (oU u ca cc ga gc)) => index60 p q u ca cc ga gc w.heap.size (w.heap.size + 1) u.code ca cc w1 HFU.out ⟨h2, h3, HO.out.rs.below hb⟩ (HO.out.um.rc.below hb) (by omega))
    rw [(idxP_neg hw9).1] at HIX
    obtain ⟨m, hm⟩ : ∃ m, u.code.length = m + 1 := ⟨u.code.length - 1, by omega⟩
    have hl1 : (u.code.length : Int) - 1 = (m : Int) := by omega
    have hml : m < u.code.length := by omega
    have hml2 : u.code.length - 1 = m := by omega
    clear hm
    have nm : (m : Int) < (u.code.length : Int) := by omega
    obtain ⟨bc, oc, hca, _, g0, _⟩ := HO.out.um.rc m hml
    have HGC := hid (fun w1 (hb : Below w.heap.size w w1) => cell_later hb g0)
    clear g0
    have hli : lastI u = u.code[m] := by
      unfold lastI
      rw [hml2]
      exact getD_in hml
    clear hml2
    have HFM := hid (formOf_any u.code[m].op)
    subst hca
    have HHD := hid (fun w1 (hb : Below w.heap.size w w1) => headed_any p q u (some ⟨bc, oc, none⟩) cc ga gc w1 (HO.out.rs.below hb) (HO.out.um.rc.below hb) HO.out.um.lc ⟨fun i hi hc => call_sel (right_of hw9 hi) hc, HO.out.arg⟩ (by omega) HO.out.h2)
    unfold HdRet at HHD
    have HW9 := hid hw9
    have HH0 := hid hh0
    have HNB := hid hnb
    have HEN := hid hen
    rw [hli] at hen
    have hE1 : headE p u.code = -1 := (idxP_neg hh0).1
    rw [hE1] at HHD
    clear hE1 hw9 hh0 hnb hli
    generalize opOk u.code[m].op = ok at *
    generalize u.code[m] = im at *
    generalize formL im.op = f at *
    obtain ⟨nm', q0, q1, q2, q3, q4, q5, rs, en⟩ := f
    simp only at hen
    subst hen
    gi_wp2_with (first
      | ((try refine ⟨trivial, ?_⟩); gi_at_call 58; (with_reducible refine (callsIn_wide.2 (HSZ.out _)).mono ?_); rintro e w1 ⟨rfl, hb⟩; clear k0 k1 k2 k3 k4 k5 k6 X4 X5 F4 F5; replace HB1 := hid (HB1.out.step hb); replace HY2 := hid (keepBox hb HY2.out); replace HY4 := hid (keepBox hb HY4.out); replace HY5 := hid (keepBox hb HY5.out); have X4 := (cell_of_row _ _ 0 _ _ _ HY4.out).trans rfl; have X5 := (cell_of_row _ _ 0 _ _ _ HY5.out).trans rfl; have F4 := boxF 0 HY4.out; have F5 := boxF 0 HY5.out; replace HY3 := hid (keepBox hb HY3.out); obtain ⟨k0, k1, k2, k3, k4, k5, k6⟩ := box7 HY3.out; clear hb)
      | ((try refine ⟨trivial, ?_⟩); gi_at_call 59; (with_reducible refine (callsIn_wide.2 (HIX.out _ HB1.out HY2.out HY3.out)).mono ?_); rintro e w1 ⟨rfl, hb⟩; clear k0 k1 k2 k3 k4 k5 k6 X4 X5 F4 F5; replace HB1 := hid (HB1.out.step hb); replace HY2 := hid (keepBox hb HY2.out); replace HY4 := hid (keepBox hb HY4.out); replace HY5 := hid (keepBox hb HY5.out); have X4 := (cell_of_row _ _ 0 _ _ _ HY4.out).trans rfl; have X5 := (cell_of_row _ _ 0 _ _ _ HY5.out).trans rfl; have F4 := boxF 0 HY4.out; have F5 := boxF 0 HY5.out; replace HY3 := hid (keepBox hb HY3.out); obtain ⟨k0, k1, k2, k3, k4, k5, k6⟩ := box7 HY3.out; clear hb; have gc0 := HGC.out _ HB1.out)
      | ((try refine ⟨trivial, ?_⟩); gi_at_call 62; (with_reducible refine (callsIn_wide.2 (HFM.out _)).mono ?_); rintro e w62 ⟨rfl, hb⟩; clear k0 k1 k2 k3 k4 k5 k6 X4 X5 F4 F5; replace hb := hb.step (bnew w62 (.cells (cF ⟨nm', q0, q1, q2, q3, q4, q5, rs, true⟩) 119)); have hf9 := heapn w62 (.cells (cF ⟨nm', q0, q1, q2, q3, q4, q5, rs, true⟩) 119) _ rfl; replace HB1 := hid (HB1.out.step hb); replace HY2 := hid (keepBox hb HY2.out); replace HY4 := hid (keepBox hb HY4.out); replace HY5 := hid (keepBox hb HY5.out); have X4 := (cell_of_row _ _ 0 _ _ _ HY4.out).trans rfl; have X5 := (cell_of_row _ _ 0 _ _ _ HY5.out).trans rfl; have F4 := boxF 0 HY4.out; have F5 := boxF 0 HY5.out; replace HY3 := hid (keepBox hb HY3.out); obtain ⟨k0, k1, k2, k3, k4, k5, k6⟩ := box7 HY3.out; clear hb; obtain ⟨j0, j1, j2, j3, j4⟩ := box5' HY2.out)
      | ((try refine ⟨trivial, ?_⟩); gi_at_call 63; (with_reducible refine (callsIn_wide.2 (HHD.out _ HB1.out)).mono ?_); rintro e w1 ⟨hb, gH, rfl, hbi, hge⟩; have HBH := hid (hbi.below (bnew w1 (.cells #[.slice (some ⟨gH, 0, none⟩) u.code.length u.code.length] 33))); have HGH := hid (And.intro (Nat.lt_of_lt_of_le (lt_of_heap HY5.out) hge) hbi.lt); have HBX := hid (heapn w1 (.cells #[.slice (some ⟨gH, 0, none⟩) u.code.length u.code.length] 33) _ rfl); clear hbi hge j0 j1 j2 j3 j4; replace hb := hb.step (bnew w1 (.cells #[.slice (some ⟨gH, 0, none⟩) u.code.length u.code.length] 33)); have HSB := hid (lt_alloc w1 (.cells #[.slice (some ⟨gH, 0, none⟩) u.code.length u.code.length] 33)); clear k0 k1 k2 k3 k4 k5 k6 X4 X5 F4 F5; replace HB1 := hid (HB1.out.step hb); replace HY2 := hid (keepBox hb HY2.out); replace HY4 := hid (keepBox hb HY4.out); replace HY5 := hid (keepBox hb HY5.out); have X4 := (cell_of_row _ _ 0 _ _ _ HY4.out).trans rfl; have X5 := (cell_of_row _ _ 0 _ _ _ HY5.out).trans rfl; have F4 := boxF 0 HY4.out; have F5 := boxF 0 HY5.out; replace HY3 := hid (keepBox hb HY3.out); obtain ⟨k0, k1, k2, k3, k4, k5, k6⟩ := box7 HY3.out; clear hb))
    obtain ⟨bH, hbH⟩ : ∃ b, b = w1.heap.size := ⟨_, rfl⟩
    rw [← hbH] at HBX HSB ⊢
    have HW9 := hid HPRE.out.wr
    clear HSZ HIX HHD HFM HGC HN1 HN2 hf9 HNB HEN HH0 HOC HOR HFU gc0
    generalize w1.alloc (.cells #[.slice (some ⟨gH, 0, none⟩) u.code.length u.code.length] 33) = wL at *
    have HGL : Hid (w.heap.size ≤ gH ∧ gH < bH ∧ bH < wL.heap.size ∧ w.heap.size + 1 + 1 + 1 < gH) := by
      obtain ⟨x1, x2⟩ := HGH.out
      have x3 := HSB.out
      exact hid ⟨by omega, by omega, by omega, by omega⟩
    clear HGH HSB hbH
    clear k0 k1 k2 k3 k4 k5 k6 X4 X5 F4 F5
    gi_loopw [77] (fun s77 wr => ∃ k : Nat, k ≤ u.guards.length ∧ s77 = .int .i64 k ∧ Hid (∀ x, x ∈ u.guards.take k → grdBad u.code.length x = false) ∧ Hid (Below wL.heap.size wL wr)) (fun s77 _ => u.guards.length - (intOf s77).toNat)
    case atStart => exact ⟨0, Nat.zero_le _, rfl, hid (by simp), hid (Below.refl _ _)⟩
    case round =>
      obtain ⟨k, hk, rfl, HQ, HBR⟩ := hrel
      by_cases hlk : k < u.guards.length
      · obtain ⟨bg, og, hga, _, g0, g1, g2⟩ := (HO.out.um.below (HB1.out.step HBR.out)).rg k hlk
        have nk : (k : Int) < (u.guards.length : Int) := by omega
        have HCG := hid (fun hb hn => chkU_grd HPRE.out hlk hb hn)
        have HTK := hid (take_last hlk)
        generalize u.guards[k] = gd at *
        subst hga
        gi_upto_region 19 with fail
        have HXG := hid (heapn wr (.cells #[.int .i64 gd.frm, .int .i64 gd.til, .int .i64 gd.at'] 124) _ rfl)
        have hbG := bnew wr (.cells #[.int .i64 gd.frm, .int .i64 gd.til, .int .i64 gd.at'] 124)
        have HB2 := hid ((HB1.out.step HBR.out).step hbG)
        have HB3 := hid (HBR.out.step hbG)
        have hsL := HBR.out.size
        have HSZG := hid (show wL.heap.size ≤ wr.heap.size ∧ wr.heap.size < (wr.alloc (.cells #[.int .i64 gd.frm, .int .i64 gd.til, .int .i64 gd.at'] 124)).heap.size from ⟨hsL, by simp⟩)
        clear g0 g1 g2 hbG hsL
        obtain ⟨bG, hbG⟩ : ∃ b, b = wr.heap.size := ⟨_, rfl⟩
        rw [← hbG] at HXG HSZG ⊢
        generalize wr.alloc (.cells #[.int .i64 gd.frm, .int .i64 gd.til, .int .i64 gd.at'] 124) = wg at *
        clear hbG
        have k5 := (cell_of_row _ _ 5 _ _ _ (keepBox HB3.out HY3.out)).trans rfl
        have b0 := (cell_of_row _ _ 0 _ _ _ HXG.out).trans rfl
        have b1 := (cell_of_row _ _ 1 _ _ _ HXG.out).trans rfl
        have b2 := (cell_of_row _ _ 2 _ _ _ HXG.out).trans rfl
        gi_cut [105] from 145 (fun s105 wx => s105 = .bool (grdBad u.code.length gd) ∧ Hid (Below wg.heap.size wg wx))
        case first =>
          have HV : Hid (grdBad u.code.length gd = (decide (gd.frm < 0) || decide (gd.til ≤ gd.frm) || decide ((u.code.length : Int) < gd.til) || !inN gd.at' 0 m)) := hid (by unfold grdBad; rw [hl1])
          have HWI := hid (fun w => within_any gd.at' 0 m w)
          clear HCG
          generalize grdBad u.code.length gd = vb at *
          cases c1 : decide (gd.frm < 0) with
          | true =>
            rw [c1] at HV
            gi_wp2_with (first
              | ((try refine ⟨trivial, ?_⟩); gi_at_call 38; (with_reducible refine (callsIn_wide.2 (HWI.out _)).mono ?_); rintro e w7 ⟨rfl, rfl⟩)
              | (refine ⟨trivial, ?_⟩; go_at_K))
            gi_meet
            exact ⟨by rw [HV.out]; rfl, hid (Below.refl _ _)⟩
          | false =>
            rw [c1] at HV
            cases c2 : decide (gd.til ≤ gd.frm) with
            | true =>
              rw [c2] at HV
              gi_wp2_with (first
                | ((try refine ⟨trivial, ?_⟩); gi_at_call 38; (with_reducible refine (callsIn_wide.2 (HWI.out _)).mono ?_); rintro e w7 ⟨rfl, rfl⟩)
                | (refine ⟨trivial, ?_⟩; go_at_K))
              gi_meet
              exact ⟨by rw [HV.out]; rfl, hid (Below.refl _ _)⟩
            | false =>
              rw [c2] at HV
              cases c3 : decide ((u.code.length : Int) < gd.til) with
              | true =>
                rw [c3] at HV
                gi_wp2_with (first
                  | ((try refine ⟨trivial, ?_⟩); gi_at_call 38; (with_reducible refine (callsIn_wide.2 (HWI.out _)).mono ?_); rintro e w7 ⟨rfl, rfl⟩)
                  | (refine ⟨trivial, ?_⟩; go_at_K))
                gi_meet
                exact ⟨by rw [HV.out]; rfl, hid (Below.refl _ _)⟩
              | false =>
                rw [c3] at HV
                generalize inN gd.at' 0 m = vi at *
                gi_wp2_with (first
                  | ((try refine ⟨trivial, ?_⟩); gi_at_call 38; (with_reducible refine (callsIn_wide.2 (HWI.out _)).mono ?_); rintro e w7 ⟨rfl, rfl⟩)
                  | (refine ⟨trivial, ?_⟩; go_at_K))
                gi_meet
                exact ⟨by rw [HV.out]; rfl, hid (Below.refl _ _)⟩
        case rest =>
          obtain ⟨rfl, HB4⟩ := hcut
          cases hgb : grdBad u.code.length gd with
          | false =>
            gi_wp2
            go_roundw
            case rel => exact ⟨k + 1, by omega, by go_num, hid (by intro x hx; rw [HTK.out] at hx; rcases List.mem_append.1 hx with h | h; exact HQ.out x h; rw [List.mem_singleton.1 h]; exact hgb), hid (HB3.out.step HB4.out)⟩
            case measure => simp [intOf]; omega
          | true =>
            have e := HCG.out hgb HQ.out
            have HWI := hid (fun w => within_any gd.frm 0 m w)
            have HE := hid (show chkU p u = (2, if inN gd.frm 0 m = true then gd.frm else 0) by rw [e]; unfold grdAt; rw [hl1])
            clear e hgb HCG HQ
            have HBW := hid (HB2.out.step HB4.out)
            have HYG := hid (keepBox HB4.out HXG.out)
            have HYA := hid (keepBox HB4.out (keepBox HB3.out HY4.out))
            have HYB := hid (keepBox HB4.out (keepBox HB3.out HY5.out))
            clear k5 b0 b1 b2
            have k5 := (cell_of_row _ _ 5 _ _ _ (keepBox HB4.out (keepBox HB3.out HY3.out))).trans rfl
            have b0 := (cell_of_row _ _ 0 _ _ _ HYG.out).trans rfl
            have fb0 := boxF 0 HYG.out
            have x4 := (cell_of_row _ _ 0 _ _ _ HYA.out).trans rfl
            have x5 := (cell_of_row _ _ 0 _ _ _ HYB.out).trans rfl
            have f4 := boxF 0 HYA.out
            have f5 := boxF 0 HYB.out
            have ne1 : bG ≠ w.heap.size + 1 + 1 := fun h => by have := HSZG.out.1; have := HGL.out; omega
            have ne2 : bG ≠ w.heap.size + 1 + 1 + 1 := fun h => by have := HSZG.out.1; have := HGL.out; omega
            cases hif : inN gd.frm 0 m with
            | true =>
              rw [hif] at HWI HE
              gi_wp2_with (first
                | ((try refine ⟨trivial, ?_⟩); gi_at_call 38; (with_reducible refine (callsIn_wide.2 (HWI.out _)).mono ?_); rintro e w7 ⟨rfl, rfl⟩)
                | (refine ⟨trivial, ?_⟩; go_at_K))
              gi_region
              gi_wp2
              have hE := HE.out
              simp only [if_true] at hE
              rw [hE] at hV1 hV2
              rw [hV1, hV2]
              obtain ⟨r1, r2⟩ := cu_set HYA.out HYB.out 2 gd.frm
              exact cu_leave (Ds := []) rfl rfl (cu_below HBW.out _ _).drew (fun D h => by cases h) List.nodup_nil r1 r2
            | false =>
              rw [hif] at HWI HE
              gi_wp2_with (first
                | ((try refine ⟨trivial, ?_⟩); gi_at_call 38; (with_reducible refine (callsIn_wide.2 (HWI.out _)).mono ?_); rintro e w7 ⟨rfl, rfl⟩)
                | (refine ⟨trivial, ?_⟩; go_at_K))
              gi_region
              gi_wp2
              have hE := HE.out
              simp only [if_false, Bool.false_eq_true] at hE
              rw [hE] at hV1 hV2
              rw [hV1, hV2]
              obtain ⟨r1, r2⟩ := cu_set ((heap_setCell_other wc ⟨bG, 0, none⟩ _ (.int .i64 0) ne1.symm).trans HYA.out) ((heap_setCell_other wc ⟨bG, 0, none⟩ _ (.int .i64 0) ne2.symm).trans HYB.out) 2 0
              exact cu_leave (Ds := []) rfl rfl (cu_below (HBW.out.setCell (p := ⟨bG, 0, none⟩) (by have := HSZG.out.1; have := HGL.out; show w.heap.size ≤ bG; omega) _) _ _).drew (fun D h => by cases h) List.nodup_nil r1 r2
      · obtain rfl : k = u.guards.length := by omega
        rw [List.take_length] at HQ
        have HBT := hid (HB1.out.step HBR.out)
        have HZ2 := hid (keepBox HBR.out HY2.out)
        have HZ3 := hid (keepBox HBR.out HY3.out)
        have HZ4 := hid (keepBox HBR.out HY4.out)
        have HZ5 := hid (keepBox HBR.out HY5.out)
        have HZX := hid (keepBox HBR.out HBX.out)
        have HZH := hid (HBH.out.below HBR.out)
        clear HY2 HY3 HY4 HY5 HBX HBH
        have k5 := (cell_of_row _ _ 5 _ _ _ HZ3.out).trans rfl
        clear HBR HB1
        gi_upto_region 25 with fail
        have HNO := hid (show ¬ 0 ≤ grdE u by have := grdE_no HQ.out; omega)
        have HIN := hid (fun t (ht : t < u.code.length) => leads_in HPRE.out.wr HNO.out ht)
        clear HNO
        obtain ⟨wT, hwT⟩ : ∃ W, W = wr := ⟨_, rfl⟩
        rw [← hwT] at HBT HZ2 HZ3 HZ4 HZ5 HZX HZH ⊢
        clear hwT k5
        refine wpIn_loop (fun a' wx => ∃ (Ds : List Nat) (kk : Nat) (s15 s119 s120 s121 s122 s123 s137 : Value), a' = ⟨(vP p q :: vU u (some { block := bc, off := oc }) cc ga gc :: Value.pointer (some { block := w.heap.size, off := 0 }) :: Value.pointer (some { block := w.heap.size + 1, off := 0 }) :: Value.pointer (some { block := w.heap.size + 1 + 1, off := 0 }) :: Value.pointer (some { block := w.heap.size + 1 + 1 + 1, off := 0 }) :: Value.int IntKind.i64 0 :: Value.int IntKind.i64 (-1) :: Value.int IntKind.i64 ↑m :: Value.pointer (some { block := w62.heap.size, off := 0 }) :: Value.bool ok :: Value.pointer (some { block := bH, off := 0 }) :: Value.int IntKind.i64 (-1) :: undef :: u14 :: s15 :: undef :: undef :: undef :: undef :: u20 :: u21 :: u22 :: u23 :: u24 :: u25 :: u26 :: u27 :: u28 :: u29 :: u30 :: u31 :: u32 :: u33 :: Value.bool false :: Value.agg #[Value.string u.cls, Value.string u.name, Value.int IntKind.i64 u.args, Value.int IntKind.i64 u.slots, Value.int IntKind.i64 u.frame, Value.slice (some { block := bc, off := oc }) u.code.length cc, Value.slice ga u.guards.length gc] :: Value.int IntKind.i64 0 :: Value.int IntKind.i64 0 :: Value.bool false :: u39 :: Value.pointer (some { block := w.heap.size + 1, off := 5 }) :: Value.slice (some { block := bc, off := oc }) u.code.length cc :: Value.func (Fn.func 60) #[] #[Value.pointer (some { block := w.heap.size, off := 0 }), Value.pointer (some { block := w.heap.size + 1, off := 0 })] :: Value.int IntKind.i64 (-1) :: Value.int IntKind.i64 (-1) :: Value.bool false :: u46 :: Value.pointer (some { block := w.heap.size + 1, off := 5 }) :: Value.slice (some { block := bc, off := oc }) u.code.length cc :: Value.int IntKind.i64 ↑u.code.length :: Value.int IntKind.i64 ↑m :: Value.tuple #[vF { name := nm', h0 := q0, h1 := q1, h2 := q2, wr := q3, r0 := q4, r1 := q5, rs := rs, en := true }, Value.bool ok] :: Value.pointer (some { block := w.heap.size + 1, off := 5 }) :: Value.slice (some { block := bc, off := oc }) u.code.length cc :: Value.int IntKind.i64 ↑m :: Value.pointer (some { block := bc, off := oc + m * 4 }) :: Value.pointer (some { block := bc, off := oc + m * 4 }) :: Value.int IntKind.i64 im.op :: Value.tuple #[vF { name := nm', h0 := q0, h1 := q1, h2 := q2, wr := q3, r0 := q4, r1 := q5, rs := rs, en := true }, Value.bool ok] :: vF { name := nm', h0 := q0, h1 := q1, h2 := q2, wr := q3, r0 := q4, r1 := q5, rs := rs, en := true } :: Value.bool ok :: Value.pointer (some { block := w62.heap.size, off := 8 }) :: Value.bool true :: Value.bool false :: u64 :: Value.tuple #[Value.slice (some { block := gH, off := 0 }) u.code.length u.code.length, Value.int IntKind.i64 (-1)] :: Value.agg #[Value.slice q.sa p.shapes.length q.sc, Value.slice q.la p.sels.length q.lc, Value.slice q.ua p.units.length q.uc, Value.int IntKind.i64 p.main, Value.int IntKind.i64 p.mk'] :: Value.agg #[Value.string u.cls, Value.string u.name, Value.int IntKind.i64 u.args, Value.int IntKind.i64 u.slots, Value.int IntKind.i64 u.frame, Value.slice (some { block := bc, off := oc }) u.code.length cc, Value.slice ga u.guards.length gc] :: Value.tuple #[Value.slice (some { block := gH, off := 0 }) u.code.length u.code.length, Value.int IntKind.i64 (-1)] :: Value.slice (some { block := gH, off := 0 }) u.code.length u.code.length :: Value.int IntKind.i64 (-1) :: Value.int IntKind.i64 (-1) :: Value.bool false :: u73 :: Value.pointer (some { block := w.heap.size + 1, off := 6 }) :: Value.slice ga u.guards.length gc :: Value.int IntKind.i64 ↑u.guards.length :: Value.int IntKind.i64 ↑u.guards.length :: Value.bool false :: u79 :: u80 :: u81 :: u82 :: u83 :: u84 :: u85 :: u86 :: u87 :: u88 :: u89 :: u90 :: u91 :: u92 :: u93 :: u94 :: u95 :: u96 :: u97 :: u98 :: u99 :: u100 :: u101 :: u102 :: u103 :: u104 :: u105 :: u106 :: u107 :: u108 :: u109 :: u110 :: u111 :: u112 :: u113 :: u114 :: Value.pointer (some { block := w.heap.size + 1, off := 5 }) :: Value.slice (some { block := bc, off := oc }) u.code.length cc :: Value.int IntKind.i64 ↑u.code.length :: Value.int IntKind.i64 (kk : Int) :: s119 :: s120 :: s121 :: s122 :: s123 :: u124 :: u125 :: u126 :: u127 :: u128 :: u129 :: u130 :: u131 :: u132 :: u133 :: u134 :: u135 :: u136 :: s137 :: u138 :: u139 :: u140 :: u141 :: u142 :: u143 :: u144 :: ([] : List Value)).toArray, Ds.map markD⟩ ∧ Ds.length = kk ∧ Hid (CuI p u w wT kk Ds wx)) (fun a' _ => u.code.length - a'.defers.length) ⟨[], 0, _, _, _, _, _, _, _, rfl, rfl, hid ⟨Nat.zero_le _, fun j h => absurd h (Nat.not_lt_zero _), KeepBut.refl _ _, HBT.out, fun D h => (by cases h), List.nodup_nil⟩⟩ ?_
        rintro _ wx ⟨Ds, kk, s15, s119, s120, s121, s122, s123, s137, rfl, hDl, HI⟩
        by_cases hkl : kk < u.code.length
        · have nkk : (kk : Int) < (u.code.length : Int) := by omega
          have hx3 := HI.out.kb.box HZ3.out
          have c1 : ∀ o, (wx.alloc o).cell? ⟨w.heap.size + 1, 0, none⟩ = some (.string u.cls) := fun o => cell_later (bnew _ _) ((cell_of_row _ _ 0 _ _ _ hx3).trans rfl)
          have c2 : ∀ o, (wx.alloc o).cell? ⟨w.heap.size + 1, 1, none⟩ = some (.string u.name) := fun o => cell_later (bnew _ _) ((cell_of_row _ _ 1 _ _ _ hx3).trans rfl)
          have c3 : ∀ o, (wx.alloc o).cell? ⟨w.heap.size + 1, 2, none⟩ = some (.int .i64 u.args) := fun o => cell_later (bnew _ _) ((cell_of_row _ _ 2 _ _ _ hx3).trans rfl)
          have c4 : ∀ o, (wx.alloc o).cell? ⟨w.heap.size + 1, 3, none⟩ = some (.int .i64 u.slots) := fun o => cell_later (bnew _ _) ((cell_of_row _ _ 3 _ _ _ hx3).trans rfl)
          have c5 : ∀ o, (wx.alloc o).cell? ⟨w.heap.size + 1, 4, none⟩ = some (.int .i64 u.frame) := fun o => cell_later (bnew _ _) ((cell_of_row _ _ 4 _ _ _ hx3).trans rfl)
          have c6 : ∀ o, (wx.alloc o).cell? ⟨w.heap.size + 1, 5, none⟩ = some (.slice (some ⟨bc, oc, none⟩) u.code.length cc) := fun o => cell_later (bnew _ _) ((cell_of_row _ _ 5 _ _ _ hx3).trans rfl)
          have c7 : ∀ o, (wx.alloc o).cell? ⟨w.heap.size + 1, 6, none⟩ = some (.slice ga u.guards.length gc) := fun o => cell_later (bnew _ _) ((cell_of_row _ _ 6 _ _ _ hx3).trans rfl)
          clear hx3
          gi_wp2_with (first
            | ((try refine ⟨trivial, ?_⟩); gi_at_call 64; refine (callsIn_wide.2 (leads_any u kk (some ⟨bc, oc, none⟩) cc ga gc _)).mono ?_; rintro e W0 ⟨rfl, hW0⟩))
          clear c1 c2 c3 c4 c5 c6 c7
          have hz : W0.heap.size = wx.heap.size + 1 + 1 + 1 := by rw [← hW0]; simp
          have hbw : Below wx.heap.size wx W0 := by rw [← hW0]; exact ((bnew _ _).step (bnew _ _)).step (bnew _ _)
          have hU : W0.heap[wx.heap.size + 1]? = some (oU u (some ⟨bc, oc, none⟩) cc ga gc) := by rw [← hW0]; exact keepBox (bnew _ _) (heapn _ _ _ (by simp))
          have hT : W0.heap[wx.heap.size + 1 + 1]? = some (.cells #[.int .i64 kk] 3) := by rw [← hW0]; exact heapn _ _ _ (by simp)
          have h6 : W0.heap[wx.heap.size]? = some (.cells #[.int .i64 kk] 3) := by rw [← hW0]; exact keepBox (bnew _ _) (keepBox (bnew _ _) (heapn _ _ _ rfl))
          clear hW0
          have hwl : w.heap.size ≤ W0.heap.size := Nat.le_trans HI.out.hb.size hbw.size
          have hstops := leads_stops 19 (by omega) fenc_all u kk hkl (by omega) (by omega) (some ⟨bc, oc, none⟩) cc ga gc (wx.heap.size + 1) (wx.heap.size + 1 + 1) W0 hU hT ⟨HO.out.um.below (HI.out.hb.step hbw), fun _ _ _ _ => trivial, fun _ _ _ _ => trivial⟩ trivial trivial trivial
          refine wpIn_rangeFunc_ownG (α := LdX u kk) rfl (by omega) (gf := 72) (lb := #[.pointer (some ⟨wx.heap.size + 1, 0, none⟩), .pointer (some ⟨wx.heap.size + 1 + 1, 0, none⟩)]) rfl trivial (enters_of Try.func72 (by kernel_rfl) rfl) hstops KeepK.trans (keep_k fenc_all) (Below.refl _ _) (fun _ => rfl)
            (fun pre W => CuJ p u w W0 (ldV pre) W) (fun c pre W => c = Code.ret ∧ CuX p u w kk W0 W)
            (fun pre A B row h hg hr => h.own hwl hg hr) (fun c pre A B row h hg hr => ⟨h.1, h.2.own hwl hg hr⟩) ?h0 ?a1 ?assign ?body ?done ?stop
          case assign =>
            intro l x W K hK
            gi_wp2
            exact hK
          case h0 => exact ⟨fun x h => (by cases h), KeepBut.refl _ _, HI.out.hb.step hbw, fun _ _ _ h _ => h⟩
          case body =>
            rintro l pre ⟨⟨tt, how⟩, hx⟩ W hJ _
            obtain ⟨hx0, hx1⟩ := HIN.out kk hkl (tt, how) hx
            obtain ⟨k1, rfl⟩ : ∃ k1 : Nat, tt = (k1 : Int) := ⟨tt.toNat, by simp at hx0; omega⟩
            have hk1 : k1 < u.code.length := by simp at hx1; omega
            have nk1 : (k1 : Int) < (u.code.length : Int) := by omega
            have HJ := hid hJ
            have HKW : Hid (KB wT W) := hid ((HI.out.kb.trans (KB.below hbw)).trans hJ.kb)
            have y11 := (cell_of_row _ _ 0 _ _ _ (KB.box HKW.out HZX.out)).trans rfl
            have hlk1 : k1 < (headL p u.code).length := by rw [headL_length]; exact hk1
            have yH := (HZH.out.keepBut HKW.out).at hlk1
            have HBADS := hid (show jmpBad (headL p u.code) ((k1 : Int), how) = (how != 0 && ((headL p u.code)[k1] != (k1 : Int))) by unfold jmpBad; rw [show (((k1 : Int), how).1).toNat = k1 from rfl, getD_in hlk1])
            have HYES := hid (fun h => jmpB_yes (p := p) hx h)
            have HNXT := hid (fun (W' : World) (hb : Below W.heap.size W W') (h : jmpBad (headL p u.code) ((k1 : Int), how) = false) => hJ.next hb h)
            have HX6 := hid (hJ.kb.box h6)
            have HC4 := hid (KB.box HKW.out HZ4.out)
            have HC5 := hid (KB.box HKW.out HZ5.out)
            have y15 := (cell_of_row _ _ 0 _ _ _ HX6.out).trans rfl
            have x4 := (cell_of_row _ _ 0 _ _ _ HC4.out).trans rfl
            have x5 := (cell_of_row _ _ 0 _ _ _ HC5.out).trans rfl
            have f4 := boxF 0 HC4.out
            have f5 := boxF 0 HC5.out
            have n46 : wx.heap.size ≠ w.heap.size + 1 + 1 := fun h => by have := lt_of_heap (HI.out.kb.box HZ4.out); omega
            have n56 : wx.heap.size ≠ w.heap.size + 1 + 1 + 1 := fun h => by have := lt_of_heap (HI.out.kb.box HZ5.out); omega
            generalize jmpBad (headL p u.code) ((k1 : Int), how) = jb at *
            generalize (headL p u.code)[k1] = hd1 at *
            clear hJ hlk1
            cases e0 : (how != 0) with
            | false =>
              rw [e0] at HBADS
              gi_wp2
              obtain ⟨r1, r2, r3⟩ := HNXT.out _ (Below.refl _ _) HBADS.out
              exact ⟨r1.from _, fun _ => r2, by dsimp only; rw [ldV_snoc]; exact r3⟩
            | true =>
              rw [e0] at HBADS
              cases e1 : (hd1 != (k1 : Int)) with
              | false =>
                rw [e1] at HBADS
                gi_wp2
                obtain ⟨r1, r2, r3⟩ := HNXT.out _ (Below.refl _ _) HBADS.out
                exact ⟨r1.from _, fun _ => r2, by dsimp only; rw [ldV_snoc]; exact r3⟩
              | true =>
                rw [e1] at HBADS
                gi_wp2
                refine wpIn_region_any (by kernel_rfl) ?_
                change wpAnyIn _ _ _ _ _ _ _ _ _ (World.drew _)
                refine wpAnyIn_ready (rs := [0, 1]) (by kernel_rfl) (by simp) ?_
                refine AllReadyIn.cons rfl (fun K hK => ?_) (AllReadyIn.cons rfl (fun K hK => ?_) AllReadyIn.nil)
                · go_simp
                  refine hK _ _ ?_
                  clear hK K
                  refine wpAnyIn_ready (rs := [1]) (by kernel_rfl) (by simp) (AllReadyIn.cons rfl (fun K hK => ?_) AllReadyIn.nil)
                  go_simp
                  refine hK _ _ ?_
                  clear hK K
                  refine wpAnyIn_ready (rs := [2]) (by kernel_rfl) (by simp) (AllReadyIn.cons rfl (fun K hK => ?_) AllReadyIn.nil)
                  go_simp
                  refine hK _ _ ?_
                  clear hK K
                  refine wpAnyIn_done (by kernel_rfl) ?_ _
                  gi_wp2
                  obtain ⟨r1, r2⟩ := HJ.out.stop HC4.out HC5.out (HYES.out HBADS.out)
                  exact ⟨r1.from _, rfl, r2⟩
                · go_simp
                  refine hK _ _ ?_
                  clear hK K
                  refine wpAnyIn_ready (rs := [0]) (by kernel_rfl) (by simp) (AllReadyIn.cons rfl (fun K hK => ?_) AllReadyIn.nil)
                  go_simp
                  refine hK _ _ ?_
                  clear hK K
                  refine wpAnyIn_ready (rs := [2]) (by kernel_rfl) (by simp) (AllReadyIn.cons rfl (fun K hK => ?_) AllReadyIn.nil)
                  go_simp
                  refine hK _ _ ?_
                  clear hK K
                  refine wpAnyIn_done (by kernel_rfl) ?_ _
                  gi_wp2
                  obtain ⟨r1, r2⟩ := HJ.out.stop HC4.out HC5.out (HYES.out HBADS.out)
                  exact ⟨r1.from _, rfl, r2⟩
          case done =>
            rintro D ys W hD hS hJ hdef
            have hms : u.code.length - (kk + 1) < u.code.length - kk := by omega
            obtain ⟨hds, hnd⟩ := HI.out.ds_next hbw hJ.low hD hdef hwl
            have HIN2 := hid (CuI.mk (k := kk + 1) (wT := wT) hkl (fun j hj => by
              rcases Nat.lt_succ_iff_lt_or_eq.1 hj with h | rfl
              · exact HI.out.no j h
              · exact jmpB_no (fun x hx => hJ.no x (by rw [hS]; exact hx))) ((HI.out.kb.trans (KB.below hbw)).trans hJ.kb) hJ.hb hds hnd)
            clear hJ hds hnd
            gi_wp2
            exact ⟨⟨D :: Ds, kk + 1, _, _, _, _, _, _, _, rfl, by rw [List.length_cons, hDl], HIN2⟩, by simp only [List.length_cons, List.length_map, hDl]; exact hms⟩
          case stop =>
            rintro D c pre W hD ⟨hp, _⟩ ⟨rfl, hx⟩ hdef
            gi_wp2
            obtain ⟨hds, hnd⟩ := HI.out.ds_next hbw hx.low hD hdef hwl
            have e := chkU_jmp HPRE.out HQ.out hkl hx.bad HI.out.no
            (first
              | rw [e]
              | (rw [e] at hV1 hV2; rw [hV1, hV2]))
            exact cu_leave (Ds := D :: Ds) rfl rfl hx.hb hds hnd ((cell_of_row _ _ 0 _ _ _ hx.x4).trans rfl) ((cell_of_row _ _ 0 _ _ _ hx.x5).trans rfl)
        · obtain rfl : kk = u.code.length := by have := HI.out.le; omega
          have HDC := hid (fun w1 (hb : Below w.heap.size w w1) => callsIn_wide.1 (depth_any u (some ⟨bc, oc, none⟩) cc ga gc w1 (HO.out.um.below hb) z6 (by omega) (by omega) HIN.out))
          unfold DpRet at HDC
          have hE := chkU_dep HPRE.out HQ.out HI.out.no
          have HBW := hid HI.out.hb
          have HYA := hid (HI.out.kb.box HZ4.out)
          have HYB := hid (HI.out.kb.box HZ5.out)
          obtain ⟨k0, k1, k2, k3, k4, k5, k6⟩ := box7 (HI.out.kb.box HZ3.out)
          cases hd : depN u with
          | none =>
            simp only [hd] at HDC
            rw [hd] at hE
            simp only [Option.isNone_none, if_true] at hE
            clear hd
            gi_wp2_with (first
              | ((try refine ⟨trivial, ?_⟩); gi_at_call 65; refine (callsIn_wide.2 (HDC.out _ HBW.out)).mono ?_; rintro e w8 ⟨hb, rfl⟩; have HB8 := hid (HBW.out.step hb); have HC4 := hid (keepBox hb HYA.out); have HC5 := hid (keepBox hb HYB.out); have X4 := (cell_of_row _ _ 0 _ _ _ HC4.out).trans rfl; have X5 := (cell_of_row _ _ 0 _ _ _ HC5.out).trans rfl; have F4 := boxF 0 HC4.out; have F5 := boxF 0 HC5.out; have HD8 := hid (fun D hD => (hb.block D (Array.getElem?_eq_some_iff.1 (HI.out.ds D hD).2).1).trans (HI.out.ds D hD).2); clear hb k0 k1 k2 k3 k4 k5 k6))
            (first
              | rw [hE]
              | (rw [hE] at hV1 hV2; rw [hV1, hV2]))
            obtain ⟨r1, r2⟩ := cu_set HC4.out HC5.out 12 0
            exact cu_leave (Ds := Ds) rfl rfl (cu_below HB8.out _ _) (fun D hD => ⟨(HI.out.ds D hD).1, (KeepsOthers.setCell _ _ _).same D _ ((KeepsOthers.setCell _ _ _).same D _ (HD8.out D hD) rfl) rfl⟩) HI.out.nd r1 r2
          | some dd =>
            simp only [hd] at HDC
            rw [hd] at hE
            simp only [Option.isNone_some, Bool.false_eq_true, if_false] at hE
            clear hd
            gi_wp2_with (first
              | ((try refine ⟨trivial, ?_⟩); gi_at_call 65; refine (callsIn_wide.2 (HDC.out _ HBW.out)).mono ?_; rintro e w8 ⟨hb, gD, rfl, _, _⟩; have HB8 := hid (HBW.out.step hb); have HC4 := hid (keepBox hb HYA.out); have HC5 := hid (keepBox hb HYB.out); have X4 := (cell_of_row _ _ 0 _ _ _ HC4.out).trans rfl; have X5 := (cell_of_row _ _ 0 _ _ _ HC5.out).trans rfl; have F4 := boxF 0 HC4.out; have F5 := boxF 0 HC5.out; have HD8 := hid (fun D hD => (hb.block D (Array.getElem?_eq_some_iff.1 (HI.out.ds D hD).2).1).trans (HI.out.ds D hD).2); clear hb k0 k1 k2 k3 k4 k5 k6))
            (first
              | rw [hE]
              | (rw [hE] at hV1 hV2; rw [hV1, hV2]))
            obtain ⟨r1, r2⟩ := cu_set HC4.out HC5.out 0 0
            exact cu_leave (Ds := Ds) rfl rfl (cu_below HB8.out _ _) (fun D hD => ⟨(HI.out.ds D hD).1, (KeepsOthers.setCell _ _ _).same D _ ((KeepsOthers.setCell _ _ _).same D _ (HD8.out D hD) rfl) rfl⟩) HI.out.nd r1 r2
end Go.Proofs.Ytecpkjhfbmchgaa
