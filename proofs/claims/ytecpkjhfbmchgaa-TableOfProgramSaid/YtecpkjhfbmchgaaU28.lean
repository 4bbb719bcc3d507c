/- CheckUnit of package core: where it ends early. -/
import Derived.Test.YtecpkjhfbmchgaaU25
import Derived.Test.YtecpkjhfbmchgaaU29
namespace Go.Proofs.Ytecpkjhfbmchgaa
open Go.RowKit Go.Shelf

/-- What CheckUnit asks of a program and a unit. -/
structure UkOk (w : World) (p : PrgN) (q : PlN) (u : UntN) (ca : Option Addr) (cc : Nat) (ga : Option Addr) (gc : Nat) : Prop where
  rs : RdS w q.la p.sels
  um : UnM w u ca cc ga gc
  h1 : p.shapes.length ≤ 1000000
  h2 : p.sels.length ≤ 1000000
  arg : ∀ s, s ∈ p.sels → 0 ≤ s.args ∧ s.args ≤ 1000
  n1 : u.cls.size ≤ 9223372036854775807
  n2 : u.name.size ≤ 9223372036854775807
theorem strE (s : ByteArray) : (s.size != 0) = !s.toList.isEmpty := by
  rw [Go.ByteArray.toList_eq]
  cases h : s.data.toList with
  | nil => simp [ByteArray.size, ← Array.length_toList, h]
  | cons a l => simp [ByteArray.size, ← Array.length_toList, h]
theorem cu_set {w1 : World} {b : Nat} {a1 a2 : Int} (h4 : w1.heap[b + 1 + 1]? = some (.cells #[.int .i64 a1] 29 (0, 0))) (h5 : w1.heap[b + 1 + 1 + 1]? = some (.cells #[.int .i64 a2] 3 (0, 0))) (v1 v2 : Int) :
    ((w1.setCell ⟨b + 1 + 1, 0, none⟩ (.int .i64 v1)).setCell ⟨b + 1 + 1 + 1, 0, none⟩ (.int .i64 v2)).cell? ⟨b + 1 + 1, 0, none⟩ = some (.int .i64 v1) ∧ ((w1.setCell ⟨b + 1 + 1, 0, none⟩ (.int .i64 v1)).setCell ⟨b + 1 + 1 + 1, 0, none⟩ (.int .i64 v2)).cell? ⟨b + 1 + 1 + 1, 0, none⟩ = some (.int .i64 v2) := by
  have e1 : (w1.setCell ⟨b + 1 + 1, 0, none⟩ (.int .i64 v1)).heap[b + 1 + 1]? = some (.cells #[.int .i64 v1] 29 (0, 0)) := heap_setCell_same _ _ 0 #[.int .i64 a1] 29 (.int .i64 v1) h4
  have e2 : ((w1.setCell ⟨b + 1 + 1, 0, none⟩ (.int .i64 v1)).setCell ⟨b + 1 + 1 + 1, 0, none⟩ (.int .i64 v2)).heap[b + 1 + 1 + 1]? = some (.cells #[.int .i64 v2] 3 (0, 0)) := heap_setCell_same _ _ 0 #[.int .i64 a2] 3 (.int .i64 v2) (by rw [heap_setCell_other _ _ _ _ (by simp)]; exact h5)
  refine ⟨?_, (cell_of_row _ _ 0 _ _ _ e2).trans rfl⟩
  have e3 := e1
  rw [← heap_setCell_other _ ⟨b + 1 + 1 + 1, 0, none⟩ _ (.int .i64 v2) (by simp)] at e3
  exact (cell_of_row _ _ 0 _ _ _ e3).trans rfl
theorem cu_below {w w1 : World} (hb : Below w.heap.size w w1) (v1 v2 : Value) : Below w.heap.size w ((w1.setCell ⟨w.heap.size + 1 + 1, 0, none⟩ v1).setCell ⟨w.heap.size + 1 + 1 + 1, 0, none⟩ v2) :=
  (hb.setCell (p := ⟨w.heap.size + 1 + 1, 0, none⟩) (by show w.heap.size ≤ w.heap.size + 1 + 1; omega) _).setCell (p := ⟨w.heap.size + 1 + 1 + 1, 0, none⟩) (by show w.heap.size ≤ w.heap.size + 1 + 1 + 1; omega) _
theorem cu_end {tmps : Array Value} {W w : World} {v1 v2 : Int} {b4 b5 : Nat} (h4 : tmps.getD 4 undef = .pointer (some ⟨b4, 0, none⟩)) (h5 : tmps.getD 5 undef = .pointer (some ⟨b5, 0, none⟩)) (c4 : W.cell? ⟨b4, 0, none⟩ = some (.int .i64 v1)) (c5 : W.cell? ⟨b5, 0, none⟩ = some (.int .i64 v2)) (hb : Below w.heap.size w W) :
    bodyPost Try.prog Try.f40 (Ret2 (.int .i64 v1) (.int .i64 v2) w) Exit.ret { tmps := tmps, defers := [] } W := by
  refine bodyPost_ret (v := .tuple #[.int .i64 v1, .int .i64 v2]) ?_ rfl ⟨rfl, hb⟩
  simp only [Array.getD_eq_getD_getElem?] at h4 h5
  simp [results, Try.results40, h4, h5, c4, c5, go_sem]
set_option maxRecDepth 100000 in
set_option maxHeartbeats 4000000 in
theorem chkU_a (p : PrgN) (q : PlN) (u : UntN) (ca : Option Addr) (cc : Nat) (ga : Option Addr) (gc : Nat) (w : World) (ho : UkOk w p q u ca cc ga gc) (hA : nameE u = true ∨ sizesN u ≠ 0 ∨ 0 ≤ wrongE p u ∨ (formL (lastI u).op).en = false ∨ 0 ≤ headE p u.code) :
    Calls Try.prog 40 #[vP p q, vU u ca cc ga gc] w (Ret2 (.int .i64 (chkU p u).1) (.int .i64 (chkU p u).2) w) := by
  have HO := hid ho; clear ho
  obtain ⟨V1, hV1⟩ : ∃ v, v = (chkU p u).1 := ⟨_, rfl⟩
  obtain ⟨V2, hV2⟩ : ∃ v, v = (chkU p u).2 := ⟨_, rfl⟩
  rw [← hV1, ← hV2]
  have HX2 := hid (heapn w (oP p q) _ rfl)
  have HX3 := hid (heapn (w.alloc (oP p q)) (oU u ca cc ga gc) _ rfl)
  have HX4 := hid (heapn ((w.alloc (oP p q)).alloc (oU u ca cc ga gc)) (.cells #[.int .i64 0] 29) _ rfl)
  have HX5 := hid (heapn (((w.alloc (oP p q)).alloc (oU u ca cc ga gc)).alloc (.cells #[.int .i64 0] 29)) (.cells #[.int .i64 0] 3) _ rfl)
  simp only [World.size_alloc] at HX3 HX4 HX5
  replace HX2 := hid (keepBox (bnew _ (.cells #[.int .i64 0] 3)) (keepBox (bnew _ (.cells #[.int .i64 0] 29)) (keepBox (bnew _ (oU u ca cc ga gc)) HX2.out)))
  replace HX3 := hid (keepBox (bnew _ (.cells #[.int .i64 0] 3)) (keepBox (bnew _ (.cells #[.int .i64 0] 29)) HX3.out))
  replace HX4 := hid (keepBox (bnew _ (.cells #[.int .i64 0] 3)) HX4.out)
  have HB := hid ((((bnew w (oP p q)).step (bnew _ (oU u ca cc ga gc))).step (bnew _ (.cells #[.int .i64 0] 29))).step (bnew _ (.cells #[.int .i64 0] 3)))
  have HN1 := hid (fun w => named_any u.cls w HO.out.n1)
  have HN2 := hid (fun w => named_any u.name w HO.out.n2)
  go_enter Try.func40, Try.ntmps40
  go_upto_region 1 with fail
  generalize (((w.alloc (oP p q)).alloc (oU u ca cc ga gc)).alloc (.cells #[.int .i64 0] 29)).alloc (.cells #[.int .i64 0] 3) = w0 at *
  obtain ⟨k0, k1, k2, k3, k4, k5, k6⟩ := box7 HX3.out
  go_cut [34] (fun s34 wx => s34 = .bool (nameE u) ∧ Hid (Below w0.heap.size w0 wx))
  case first =>
    have HV := hid (show nameE u = (!namedB u.cls || (!u.name.toList.isEmpty && !namedB u.name)) by unfold nameE; rw [strE])
    generalize nameE u = v at *
    cases e1 : namedB u.cls with
    | false =>
      rw [e1] at HN1 HV
      go_wp2_with (first
        | (go_at_call 37; (with_reducible refine ((HN1.out _)).mono ?_); rintro e w1 ⟨rfl, hb⟩))
      go_meet
      exact ⟨by rw [HV.out]; rfl, hid hb⟩
    | true =>
      rw [e1] at HN1 HV
      cases e2 : u.name.toList.isEmpty with
      | true =>
        rw [e2] at HV
        go_wp2_with (first
          | (go_at_call 37; (with_reducible refine ((HN1.out _)).mono ?_); rintro e w1 ⟨rfl, hb⟩; have j1 := cell_later hb k1))
        go_meet
        exact ⟨by rw [HV.out]; rfl, hid hb⟩
      | false =>
        rw [e2] at HV
        generalize namedB u.name = nn at *
        go_wp2_with (first
          | (go_at_call 37; (with_reducible refine ((HN1.out _)).mono ?_); clear HN1; rintro e w1 ⟨rfl, hb⟩; have j1 := cell_later hb k1; have HB7 := hid hb; clear hb)
          | (go_at_call 37; (with_reducible refine ((HN2.out _)).mono ?_); rintro e w2 ⟨rfl, hb⟩))
        go_meet
        exact ⟨by rw [HV.out]; rfl, hid (HB7.out.step hb)⟩
  case rest =>
    obtain ⟨rfl, HB9⟩ := hcut
    have HB1 := hid (HB.out.step HB9.out)
    have HY2 := hid (keepBox HB9.out HX2.out)
    have HY3 := hid (keepBox HB9.out HX3.out)
    have HY4 := hid (keepBox HB9.out HX4.out)
    have HY5 := hid (keepBox HB9.out HX5.out)
    clear HB9 HB HX2 HX3 HX4 HX5 k0 k1 k2 k3 k4 k5 k6
    obtain ⟨k0, k1, k2, k3, k4, k5, k6⟩ := box7 HY3.out
    have X4 := (cell_of_row _ _ 0 _ _ _ HY4.out).trans rfl
    have X5 := (cell_of_row _ _ 0 _ _ _ HY5.out).trans rfl
    have F4 := boxF 0 HY4.out
    have F5 := boxF 0 HY5.out
    have HOC := hid (HO.out.um.below HB1.out)
    have HOR := hid (HO.out.rs.below HB1.out)
    cases hnb : nameE u with
    | true =>
      have e : chkU p u = (4, 0) := by
        unfold chkU
        rw [if_pos hnb]
      rw [e] at hV1 hV2
      have HV1 := hid hV1
      have HV2 := hid hV2
      clear hV1 hV2 e
      go_wp2
      rw [HV1.out, HV2.out]
      obtain ⟨r1, r2⟩ := cu_set HY4.out HY5.out 4 0
      exact cu_end rfl rfl r1 r2 (cu_below HB1.out _ _)
    | false =>
      by_cases hsz : sizesN u = 0
      · have hszK := hid hsz
        have HSZ := hid (fun w => sizes_any u ca cc ga gc w)
        rw [hsz] at HSZ
        go_wp2_with (first
          | (go_at_call 58; (with_reducible refine (HSZ.out _).mono ?_); rintro e w1 ⟨rfl, hb⟩; clear k0 k1 k2 k3 k4 k5 k6 X4 X5 F4 F5; replace HB1 := hid (HB1.out.step hb); replace HY2 := hid (keepBox hb HY2.out); replace HY4 := hid (keepBox hb HY4.out); replace HY5 := hid (keepBox hb HY5.out); have X4 := (cell_of_row _ _ 0 _ _ _ HY4.out).trans rfl; have X5 := (cell_of_row _ _ 0 _ _ _ HY5.out).trans rfl; have F4 := boxF 0 HY4.out; have F5 := boxF 0 HY5.out; replace HY3 := hid (keepBox hb HY3.out); obtain ⟨k0, k1, k2, k3, k4, k5, k6⟩ := box7 HY3.out; clear hb))
        clear hsz
        obtain ⟨⟨z0, z1⟩, ⟨z2, z3⟩, ⟨z4, z5⟩, ⟨z6, z7⟩, z8, z9⟩ := sizes_fit hszK.out
        have HFU := hid (FitU.mk HO.out.h1 HO.out.h2 (by omega) ⟨by omega, by omega⟩ ⟨by omega, by omega⟩ : FitU p u)
        have HIX := hid (fun w1 (hb : Below w.heap.size w w1) (h2 : w1.heap[w.heap.size]? = some (oP p q)) (h3 : w1.heap[w.heap.size + 1]? = some (oU u ca cc ga gc)) => index60 p q u ca cc ga gc w.heap.size (w.heap.size + 1) u.code ca cc w1 HFU.out ⟨h2, h3, HO.out.rs.below hb⟩ (HO.out.um.rc.below hb) (by omega))
        obtain ⟨wi, hwi⟩ : ∃ i, i = idxP (wrongB p u) u.code := ⟨_, rfl⟩
        rw [← hwi] at HIX
        by_cases hw0 : 0 ≤ wi
        · have hw9 : 0 ≤ wrongE p u := by unfold wrongE; rw [← hwi]; exact hw0
          have e : chkU p u = (1, wrongE p u) := by
            unfold chkU
            rw [if_neg (by rw [hnb]; decide), if_neg (fun h => h hszK.out), if_pos hw9]
          rw [e] at hV1 hV2
          have HV1 := hid hV1
          have HV2 := hid hV2
          clear hV1 hV2 e
          rw [show wrongE p u = wi by unfold wrongE; rw [hwi]] at HV2
          clear hwi hw9
          go_wp2_with (first
            | (go_at_call 58; (with_reducible refine (HSZ.out _).mono ?_); rintro e w1 ⟨rfl, hb⟩; clear k0 k1 k2 k3 k4 k5 k6 X4 X5 F4 F5; replace HB1 := hid (HB1.out.step hb); replace HY2 := hid (keepBox hb HY2.out); replace HY4 := hid (keepBox hb HY4.out); replace HY5 := hid (keepBox hb HY5.out); have X4 := (cell_of_row _ _ 0 _ _ _ HY4.out).trans rfl; have X5 := (cell_of_row _ _ 0 _ _ _ HY5.out).trans rfl; have F4 := boxF 0 HY4.out; have F5 := boxF 0 HY5.out; replace HY3 := hid (keepBox hb HY3.out); obtain ⟨k0, k1, k2, k3, k4, k5, k6⟩ := box7 HY3.out; clear hb)
            | (go_at_call 59; (with_reducible refine (HIX.out _ HB1.out HY2.out HY3.out).mono ?_); rintro e w1 ⟨rfl, hb⟩; clear k0 k1 k2 k3 k4 k5 k6 X4 X5 F4 F5; replace HB1 := hid (HB1.out.step hb); replace HY2 := hid (keepBox hb HY2.out); replace HY4 := hid (keepBox hb HY4.out); replace HY5 := hid (keepBox hb HY5.out); have X4 := (cell_of_row _ _ 0 _ _ _ HY4.out).trans rfl; have X5 := (cell_of_row _ _ 0 _ _ _ HY5.out).trans rfl; have F4 := boxF 0 HY4.out; have F5 := boxF 0 HY5.out; replace HY3 := hid (keepBox hb HY3.out); obtain ⟨k0, k1, k2, k3, k4, k5, k6⟩ := box7 HY3.out; clear hb))
          rw [HV1.out, HV2.out]
          obtain ⟨r1, r2⟩ := cu_set HY4.out HY5.out 1 wi
          exact cu_end rfl rfl r1 r2 (cu_below HB1.out _ _)
        · have hw9 : ¬ 0 ≤ wrongE p u := by unfold wrongE; rw [← hwi]; exact hw0
          have HW9 := hid hw9
          clear hwi
          obtain ⟨m, hm⟩ : ∃ m, u.code.length = m + 1 := ⟨u.code.length - 1, by omega⟩
          have hl1 : (u.code.length : Int) - 1 = (m : Int) := by omega
          have hml : m < u.code.length := by omega
          have hml2 : u.code.length - 1 = m := by omega
          clear hm
          have nm : (m : Int) < (u.code.length : Int) := by omega
          obtain ⟨bc, oc, hca, _, g0, _⟩ := HO.out.um.rc m hml
          have HGC := hid (fun w1 (hb : Below w.heap.size w w1) => cell_later hb g0)
          clear g0
          have hli : lastI u = u.code[m] := by
            unfold lastI
            rw [hml2]
            exact getD_in hml
          clear hml2
          have HFM := hid (formOf_any u.code[m].op)
          subst hca
          cases hen : (formL u.code[m].op).en with
          | false =>
            have e : chkU p u = (2, (u.code.length : Int) - 1) := by
              unfold chkU
              rw [if_neg (by rw [hnb]; decide), if_neg (fun h => h hszK.out), if_neg hw9, if_pos (by rw [hli]; exact hen)]
            rw [e] at hV1 hV2
            have HV1 := hid hV1
            have HV2 := hid hV2
            clear hV1 hV2 e
            rw [hl1] at HV2
            clear hw9 hli
            generalize opOk u.code[m].op = ok at *
            generalize u.code[m] = im at *
            generalize formL im.op = f at *
            obtain ⟨nm', q0, q1, q2, q3, q4, q5, rs, en⟩ := f
            simp only at hen
            subst hen
            go_wp2_with (first
              | (go_at_call 58; (with_reducible refine (HSZ.out _).mono ?_); rintro e w1 ⟨rfl, hb⟩; clear k0 k1 k2 k3 k4 k5 k6 X4 X5 F4 F5; replace HB1 := hid (HB1.out.step hb); replace HY2 := hid (keepBox hb HY2.out); replace HY4 := hid (keepBox hb HY4.out); replace HY5 := hid (keepBox hb HY5.out); have X4 := (cell_of_row _ _ 0 _ _ _ HY4.out).trans rfl; have X5 := (cell_of_row _ _ 0 _ _ _ HY5.out).trans rfl; have F4 := boxF 0 HY4.out; have F5 := boxF 0 HY5.out; replace HY3 := hid (keepBox hb HY3.out); obtain ⟨k0, k1, k2, k3, k4, k5, k6⟩ := box7 HY3.out; clear hb)
              | (go_at_call 59; (with_reducible refine (HIX.out _ HB1.out HY2.out HY3.out).mono ?_); rintro e w1 ⟨rfl, hb⟩; clear k0 k1 k2 k3 k4 k5 k6 X4 X5 F4 F5; replace HB1 := hid (HB1.out.step hb); replace HY2 := hid (keepBox hb HY2.out); replace HY4 := hid (keepBox hb HY4.out); replace HY5 := hid (keepBox hb HY5.out); have X4 := (cell_of_row _ _ 0 _ _ _ HY4.out).trans rfl; have X5 := (cell_of_row _ _ 0 _ _ _ HY5.out).trans rfl; have F4 := boxF 0 HY4.out; have F5 := boxF 0 HY5.out; replace HY3 := hid (keepBox hb HY3.out); obtain ⟨k0, k1, k2, k3, k4, k5, k6⟩ := box7 HY3.out; clear hb; have gc0 := HGC.out _ HB1.out)
              | (go_at_call 62; (with_reducible refine (HFM.out _).mono ?_); rintro e w1 ⟨rfl, hb⟩; clear k0 k1 k2 k3 k4 k5 k6 X4 X5 F4 F5; replace hb := hb.step (bnew w1 (.cells (cF ⟨nm', q0, q1, q2, q3, q4, q5, rs, false⟩) 119)); replace HB1 := hid (HB1.out.step hb); replace HY2 := hid (keepBox hb HY2.out); replace HY4 := hid (keepBox hb HY4.out); replace HY5 := hid (keepBox hb HY5.out); have X4 := (cell_of_row _ _ 0 _ _ _ HY4.out).trans rfl; have X5 := (cell_of_row _ _ 0 _ _ _ HY5.out).trans rfl; have F4 := boxF 0 HY4.out; have F5 := boxF 0 HY5.out; replace HY3 := hid (keepBox hb HY3.out); obtain ⟨k0, k1, k2, k3, k4, k5, k6⟩ := box7 HY3.out; clear hb))
            rw [HV1.out, HV2.out]
            obtain ⟨r1, r2⟩ := cu_set HY4.out HY5.out 2 m
            exact cu_end rfl rfl r1 r2 (cu_below HB1.out _ _)
          | true =>
            have HHD := hid (fun w1 (hb : Below w.heap.size w w1) => headed_any p q u (some ⟨bc, oc, none⟩) cc ga gc w1 (HO.out.rs.below hb) (HO.out.um.rc.below hb) HO.out.um.lc ⟨fun i hi hc => call_sel (right_of hw9 hi) hc, HO.out.arg⟩ (by omega) HO.out.h2)
            by_cases hh0 : 0 ≤ headE p u.code
            · have hlast : (formL (lastI u).op).en = true := by rw [hli]; exact hen
              have e : chkU p u = (2, headE p u.code) := by
                unfold chkU
                rw [if_neg (by rw [hnb]; decide), if_neg (fun h => h hszK.out), if_neg hw9, if_neg (by rw [hlast]; decide), if_pos hh0]
              rw [e] at hV1 hV2
              have HV1 := hid hV1
              have HV2 := hid hV2
              clear hV1 hV2 e
              clear hw9 hli hlast
              unfold HdRet at HHD
              generalize headE p u.code = hE at *
              generalize opOk u.code[m].op = ok at *
              generalize u.code[m] = im at *
              generalize formL im.op = f at *
              obtain ⟨nm', q0, q1, q2, q3, q4, q5, rs, en⟩ := f
              simp only at hen
              subst hen
              go_wp2_with (first
                | (go_at_call 58; (with_reducible refine (HSZ.out _).mono ?_); rintro e w1 ⟨rfl, hb⟩; clear k0 k1 k2 k3 k4 k5 k6 X4 X5 F4 F5; replace HB1 := hid (HB1.out.step hb); replace HY2 := hid (keepBox hb HY2.out); replace HY4 := hid (keepBox hb HY4.out); replace HY5 := hid (keepBox hb HY5.out); have X4 := (cell_of_row _ _ 0 _ _ _ HY4.out).trans rfl; have X5 := (cell_of_row _ _ 0 _ _ _ HY5.out).trans rfl; have F4 := boxF 0 HY4.out; have F5 := boxF 0 HY5.out; replace HY3 := hid (keepBox hb HY3.out); obtain ⟨k0, k1, k2, k3, k4, k5, k6⟩ := box7 HY3.out; clear hb)
                | (go_at_call 59; (with_reducible refine (HIX.out _ HB1.out HY2.out HY3.out).mono ?_); rintro e w1 ⟨rfl, hb⟩; clear k0 k1 k2 k3 k4 k5 k6 X4 X5 F4 F5; replace HB1 := hid (HB1.out.step hb); replace HY2 := hid (keepBox hb HY2.out); replace HY4 := hid (keepBox hb HY4.out); replace HY5 := hid (keepBox hb HY5.out); have X4 := (cell_of_row _ _ 0 _ _ _ HY4.out).trans rfl; have X5 := (cell_of_row _ _ 0 _ _ _ HY5.out).trans rfl; have F4 := boxF 0 HY4.out; have F5 := boxF 0 HY5.out; replace HY3 := hid (keepBox hb HY3.out); obtain ⟨k0, k1, k2, k3, k4, k5, k6⟩ := box7 HY3.out; clear hb; have gc0 := HGC.out _ HB1.out)
                | (go_at_call 62; (with_reducible refine (HFM.out _).mono ?_); rintro e w1 ⟨rfl, hb⟩; clear k0 k1 k2 k3 k4 k5 k6 X4 X5 F4 F5; replace hb := hb.step (bnew w1 (.cells (cF ⟨nm', q0, q1, q2, q3, q4, q5, rs, true⟩) 119)); have hf9 := heapn w1 (.cells (cF ⟨nm', q0, q1, q2, q3, q4, q5, rs, true⟩) 119) _ rfl; replace HB1 := hid (HB1.out.step hb); replace HY2 := hid (keepBox hb HY2.out); replace HY4 := hid (keepBox hb HY4.out); replace HY5 := hid (keepBox hb HY5.out); have X4 := (cell_of_row _ _ 0 _ _ _ HY4.out).trans rfl; have X5 := (cell_of_row _ _ 0 _ _ _ HY5.out).trans rfl; have F4 := boxF 0 HY4.out; have F5 := boxF 0 HY5.out; replace HY3 := hid (keepBox hb HY3.out); obtain ⟨k0, k1, k2, k3, k4, k5, k6⟩ := box7 HY3.out; clear hb; obtain ⟨j0, j1, j2, j3, j4⟩ := box5' HY2.out)
                | (go_at_call 63; (with_reducible refine (HHD.out _ HB1.out).mono ?_); rintro e w1 ⟨hb, gH, rfl, hbi, hge⟩; clear hbi hge j0 j1 j2 j3 j4; replace hb := hb.step (bnew w1 (.cells #[.slice (some ⟨gH, 0, none⟩) u.code.length u.code.length] 33)); clear k0 k1 k2 k3 k4 k5 k6 X4 X5 F4 F5; replace HB1 := hid (HB1.out.step hb); replace HY2 := hid (keepBox hb HY2.out); replace HY4 := hid (keepBox hb HY4.out); replace HY5 := hid (keepBox hb HY5.out); have X4 := (cell_of_row _ _ 0 _ _ _ HY4.out).trans rfl; have X5 := (cell_of_row _ _ 0 _ _ _ HY5.out).trans rfl; have F4 := boxF 0 HY4.out; have F5 := boxF 0 HY5.out; replace HY3 := hid (keepBox hb HY3.out); obtain ⟨k0, k1, k2, k3, k4, k5, k6⟩ := box7 HY3.out; clear hb))
              rw [HV1.out, HV2.out]
              obtain ⟨r1, r2⟩ := cu_set HY4.out HY5.out 2 hE
              exact cu_end rfl rfl r1 r2 (cu_below HB1.out _ _)
            · exact absurd hA (by rintro (h | h | h | h | h); rw [hnb] at h; cases h; exact h hszK.out; exact hw9 h; rw [hli, hen] at h; cases h; exact hh0 h)
      · have HSZ := hid (fun w => sizes_any u ca cc ga gc w)
        have e : chkU p u = (sizesN u, 0) := by
          unfold chkU
          rw [if_neg (by rw [hnb]; decide), if_pos hsz]
        rw [e] at hV1 hV2
        have HV1 := hid hV1
        have HV2 := hid hV2
        clear hV1 hV2 e
        have hbz : (sizesN u == 0) = false := by rw [beq_eq_false_iff_ne]; exact hsz
        generalize sizesN u = sz at *
        go_wp2_with (first
          | (go_at_call 58; (with_reducible refine (HSZ.out _).mono ?_); rintro e w1 ⟨rfl, hb⟩; clear k0 k1 k2 k3 k4 k5 k6 X4 X5 F4 F5; replace HB1 := hid (HB1.out.step hb); replace HY2 := hid (keepBox hb HY2.out); replace HY4 := hid (keepBox hb HY4.out); replace HY5 := hid (keepBox hb HY5.out); have X4 := (cell_of_row _ _ 0 _ _ _ HY4.out).trans rfl; have X5 := (cell_of_row _ _ 0 _ _ _ HY5.out).trans rfl; have F4 := boxF 0 HY4.out; have F5 := boxF 0 HY5.out; replace HY3 := hid (keepBox hb HY3.out); obtain ⟨k0, k1, k2, k3, k4, k5, k6⟩ := box7 HY3.out; clear hb))
        rw [HV1.out, HV2.out]
        obtain ⟨r1, r2⟩ := cu_set HY4.out HY5.out sz 0
        exact cu_end rfl rfl r1 r2 (cu_below HB1.out _ _)
end Go.Proofs.Ytecpkjhfbmchgaa
