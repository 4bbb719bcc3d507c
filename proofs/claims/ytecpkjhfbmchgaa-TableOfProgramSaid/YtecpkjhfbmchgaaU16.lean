/- headed of package core. -/
import Derived.Test.YtecpkjhfbmchgaaU15
namespace Go.Proofs.Ytecpkjhfbmchgaa
open Go.RowKit

theorem info4 : (Try.prog.info? 4).map (fun i => (i.zero, i.size, i.bytes)) = some (some (.bool false), 1, 1) := by kernel_rfl
/-- What headed asks of a program and its code. -/
structure HdOk (p : PrgN) (code : List InsN) : Prop where
  sel : ∀ i, i ∈ code → callB i = true → 0 ≤ callC i ∧ callC i < p.sels.length
  arg : ∀ s, s ∈ p.sels → 0 ≤ s.args ∧ s.args ≤ 1000
/-- What headed returns. -/
def HdRet (p : PrgN) (code : List InsN) (w : World) (e : Ending) (w' : World) : Prop := Below w.heap.size w w' ∧ ∃ g, e = .returned (.tuple #[.slice (some ⟨g, 0, none⟩) code.length code.length, .int .i64 (headE p code)]) ∧ BI w' g (headL p code) ∧ w.heap.size ≤ g
set_option maxRecDepth 100000 in
set_option maxHeartbeats 8000000 in
theorem headed_any (p : PrgN) (q : PlN) (u : UntN) (ca : Option Addr) (cc : Nat) (ga : Option Addr) (gc : Nat) (w : World) (hl : RdS w q.la p.sels) (hc : RdC w ca u.code) (_hcc : u.code.length ≤ cc) (ho : HdOk p u.code) (hlen : u.code.length ≤ 1000000) (_h2 : p.sels.length ≤ 1000000) :
    Calls Try.prog 63 #[vP p q, vU u ca cc ga gc] w (HdRet p u.code w) := by
  have HL := hid hl; clear hl
  have HC := hid hc; clear hc
  have HO := hid ho; clear ho
  obtain ⟨n, hn⟩ : ∃ n, n = u.code.length := ⟨_, rfl⟩
  have hmk := fun w => run_make_row' (P := Try.prog) 33 3 (.int .i64 0) 8 Try.underlying33 info3 rfl .i64 .i64 u.code.length (by omega) (by omega) w
  have hmb := fun w => run_make_row' (P := Try.prog) 136 4 (.bool false) 1 Try.underlying136 info4 rfl .i64 .i64 u.code.length (by omega) (by omega) w
  have HB := hid ((bnew w (oP p q)).step (bnew (w.alloc (oP p q)) (oU u ca cc ga gc)))
  have HX2 := hid (keepBox (bnew (w.alloc (oP p q)) (oU u ca cc ga gc)) (heapn w (oP p q) _ rfl))
  have HX3 := hid (heapn (w.alloc (oP p q)) (oU u ca cc ga gc) _ rfl)
  have e1 : (w.alloc (oP p q)).heap.size = w.heap.size + 1 := by simp
  rw [e1] at HX3
  clear e1
  go_enter Try.func63, Try.ntmps63
  go_upto_region 1 with fail
  generalize (w.alloc (oP p q)).alloc (oU u ca cc ga gc) = w0 at *
  obtain ⟨k0, k1, k2, k3, k4, k5, k6⟩ := box7 HX3.out
  have a5 : ∀ o, (w0.alloc o).cell? ⟨w.heap.size + 1, 5, none⟩ = some (.slice ca u.code.length cc) := fun o => cell_later (bnew _ _) k5
  have a6 : ∀ o o', ((w0.alloc o).alloc o').cell? ⟨w.heap.size + 1, 5, none⟩ = some (.slice ca u.code.length cc) := fun o o' => cell_later (bnew _ _) (a5 o)
  go_upto_region 4 with fail
  have HG := hid HX3.out
  have hsz : w.heap.size + 1 < w0.heap.size := lt_of_heap HX3.out
  have hbi : BI ((w0.alloc (.cells (madeCells #[.int .i64 0] u.code.length) 3)).alloc (.cells (madeCells #[.bool false] u.code.length) 4)) w0.heap.size (fillU u.code.length 0) := by
    unfold fillU
    rw [List.range_zero, List.map_nil, List.nil_append, Nat.sub_zero]
    exact (bi_made w0 u.code.length).below (bnew _ _)
  have hbb : BB ((w0.alloc (.cells (madeCells #[.int .i64 0] u.code.length) 3)).alloc (.cells (madeCells #[.bool false] u.code.length) 4)) (w0.heap.size + 1) (List.replicate u.code.length false) := by
    have h := bb_made (w0.alloc (.cells (madeCells #[.int .i64 0] u.code.length) 3)) u.code.length
    rwa [show (w0.alloc (.cells (madeCells #[.int .i64 0] u.code.length) 3)).heap.size = w0.heap.size + 1 by simp] at h
  have hbw : Below w0.heap.size w0 ((w0.alloc (.cells (madeCells #[.int .i64 0] u.code.length) 3)).alloc (.cells (madeCells #[.bool false] u.code.length) 4)) := (bnew w0 _).step (bnew _ _)
  generalize (w0.alloc (.cells (madeCells #[.int .i64 0] u.code.length) 3)).alloc (.cells (madeCells #[.bool false] u.code.length) 4) = w2 at *
  obtain ⟨gH, hgH⟩ : ∃ g, g = w0.heap.size := ⟨_, rfl⟩
  obtain ⟨gB, hgB⟩ : ∃ g, g = w0.heap.size + 1 := ⟨_, rfl⟩
  rw [← hgB] at hbb ⊢
  rw [← hgH] at hbi ⊢
  have HBI := hid hbi
  have HBB := hid hbb
  have HBW := hid hbw
  have HGS := hid (show w0.heap.size ≤ gH ∧ w0.heap.size ≤ gB ∧ gH ≠ gB by omega)
  have HSZ := hid hsz
  clear hbi hbb hbw hgH hgB hsz a5 a6 hmk hmb k0 k1 k2 k3 k4 k5 k6
  go_loopg [33] u.code.length (fun gh s33 wr => ∃ k : Nat, k ≤ u.code.length ∧ gh = u.code.length - k ∧ s33 = .int .i64 k ∧ Hid (BI wr gH (fillU u.code.length k) ∧ BB wr gB (List.replicate u.code.length false) ∧ Below w0.heap.size w0 wr))
  case atStart => exact ⟨0, Nat.zero_le _, rfl, rfl, hid ⟨HBI.out, HBB.out, HBW.out⟩⟩
  case round =>
    obtain ⟨k, hk, rfl, rfl, HX⟩ := hrel
    obtain ⟨k0, k1, k2, k3, k4, k5, k6⟩ := box7 (keepBox HX.out.2.2 HX3.out)
    by_cases hlk : k < u.code.length
    · have nk : (k : Int) < (u.code.length : Int) := by omega
      have hkl : k < (fillU u.code.length k).length := by rw [fillU_length hk]; exact hlk
      have hat := HX.out.1.at hkl
      have hfr := HX.out.1.frozen k
      generalize (fillU u.code.length k)[k] = old at hat
      have HKL := hid hkl
      clear hkl
      go_wp2_with fail
      go_roundg (u.code.length - (k + 1))
      case measure => omega
      case rel =>
        refine ⟨k + 1, by omega, rfl, by go_num, hid ⟨?_, HX.out.2.1.keep ?_, HX.out.2.2.setCell (p := ⟨gH, k, none⟩) HGS.out.1 _⟩⟩
        · rw [fillU_succ hlk]
          exact HX.out.1.set HKL.out k
        · exact Below.heap_setCell _ _ _ _ HGS.out.2.2.symm
    · have hkn : k = u.code.length := by omega
      subst hkn
      have HI9 : Hid (BI wr gH (hdU p u.code 0).1) := hid (by have h := HX.out.1; rw [fillU_all] at h; exact h)
      have HB9 : Hid (BB wr gB (hdU p u.code 0).2) := hid HX.out.2.1
      have HW9 := hid HX.out.2.2
      clear HX
      go_upto_region 9 with fail
      generalize wr = w3 at *
      go_loopg [44] u.code.length (fun gh s44 wr => ∃ k : Nat, k ≤ u.code.length ∧ gh = u.code.length - k ∧ s44 = .int .i64 k ∧ Hid (BI wr gH (hdU p u.code k).1 ∧ BB wr gB (hdU p u.code k).2 ∧ Below w0.heap.size w0 wr))
      case atStart => exact ⟨0, Nat.zero_le _, rfl, rfl, hid ⟨HI9.out, HB9.out, HW9.out⟩⟩
      case round =>
        obtain ⟨k, hk, rfl, rfl, HX⟩ := hrel
        clear k0 k1 k2 k3 k4 k5 k6
        obtain ⟨k0, k1, k2, k3, k4, k5, k6⟩ := box7 (keepBox HX.out.2.2 HX3.out)
        by_cases hlk : k < u.code.length
        · have nk : (k : Int) < (u.code.length : Int) := by omega
          obtain ⟨i, hi⟩ : ∃ i, i = u.code.getD k ins0 := ⟨_, rfl⟩
          have hii : u.code[k] = i := (getD_in hlk).symm.trans hi.symm
          obtain ⟨b, off, hca, -, c0, c1, c2, c3⟩ := (HC.out.below (HB.out.step HX.out.2.2)) k hlk
          rw [hii] at c0 c1 c2 c3
          have hmem : i ∈ u.code := hii ▸ List.getElem_mem hlk
          have HI := hid (And.intro hi hmem)
          subst hca
          clear hi hii hmem
          cases hcb : callB i with
          | false =>
            have HCA := hid (fun w => (hcb ▸ called_any i w : Calls Try.prog 71 #[vI i] w (Ret2 (.int .i64 (callC i)) (.bool false) w)))
            have HCB := hid hcb
            clear hcb
            go_wp2_with (go_at_call 71; (with_reducible refine (HCA.out _).mono ?_); rintro e w4 ⟨rfl, hb⟩; have HB4 := hid ((bnew wr (.cells #[.int .i64 i.op, .int .i64 i.a, .int .i64 i.b, .int .i64 i.c] 113)).step hb); clear hb)
            go_roundg (u.code.length - (k + 1))
            case measure => omega
            case rel =>
              have hst : hdU p u.code (k + 1) = hdU p u.code k := by
                rw [hdU_succ]
                unfold hdStep
                rw [← HI.out.1, HCB.out]
                rfl
              refine ⟨k + 1, by omega, rfl, by go_num, hid ?_⟩
              rw [hst]
              exact ⟨HX.out.1.below HB4.out, HX.out.2.1.below HB4.out, HX.out.2.2.step HB4.out⟩
          | true =>
            have HCA := hid (fun w => (hcb ▸ called_any i w : Calls Try.prog 71 #[vI i] w (Ret2 (.int .i64 (callC i)) (.bool true) w)))
            have HCB := hid hcb
            obtain ⟨hs0, hs1⟩ := HO.out.sel i HI.out.2 hcb
            obtain ⟨m, hm⟩ : ∃ m : Nat, callC i = (m : Int) := ⟨(callC i).toNat, by omega⟩
            have hml : m < p.sels.length := by omega
            obtain ⟨bs, os, hsa, -, -, -, s2, -⟩ := (HL.out.below (HB.out.step HX.out.2.2)) m hml
            obtain ⟨a, ha⟩ : ∃ a : Nat, p.sels[m].args = (a : Int) := ⟨(p.sels[m].args).toNat, by have := (HO.out.arg _ (List.getElem_mem hml)).1; omega⟩
            have HNA : Hid (nArg p i = a ∧ a ≤ 1000) := hid ⟨by unfold nArg; rw [hm, show ((m : Int)).toNat = m from rfl, getD_in hml, ha]; rfl, by have := (HO.out.arg _ (List.getElem_mem hml)).2; omega⟩
            rw [ha] at s2
            rw [hm] at HCA
            have nm : (m : Int) < (p.sels.length : Int) := by omega
            have nm0 : (0 : Int) ≤ (m : Int) := by omega
            obtain ⟨l0, l1, l2, l3, l4⟩ := box5' (keepBox HX.out.2.2 HX2.out)
            rw [hsa] at l1
            clear hs0 hs1 hml ha hm hcb hsa
            go_upto_region 12 with (go_at_call 71; (with_reducible refine (HCA.out _).mono ?_); rintro e w4 ⟨rfl, hb⟩; have HB4 := hid ((bnew wr (.cells #[.int .i64 i.op, .int .i64 i.a, .int .i64 i.b, .int .i64 i.c] 113)).step hb); clear hb)
            have HX4 := hid (And.intro (HX.out.1.below HB4.out) (And.intro (HX.out.2.1.below HB4.out) (HX.out.2.2.step HB4.out)))
            replace l1 := cell_later HB4.out l1
            replace s2 := cell_later HB4.out s2
            clear k0 k1 k2 k3 k4 k5 k6 c0 c1 c2 c3 l0 l2 l3 l4 HCA
            go_upto_region 16 with fail
            have HW4 : Hid (wholeU p u.code k 0 = decide (a ≤ k)) := hid (by unfold wholeU; rw [← HI.out.1, HNA.out.1]; simp)
            clear nm nm0 l1 s2
            go_loopg [14, 15] a (fun gh s14 s15 wr => ∃ j : Nat, j ≤ a ∧ gh = a - j ∧ s15 = .int .i64 j ∧ s14 = .bool (wholeU p u.code k j) ∧ Hid (Below w4.heap.size w4 wr))
            case atStart => exact ⟨0, Nat.zero_le _, rfl, rfl, by rw [HW4.out], hid (Below.refl _ _)⟩
            case round =>
              obtain ⟨j, hj, rfl, rfl, rfl, HY⟩ := hrel
              have hal := HNA.out.2
              obtain ⟨v, hv⟩ : ∃ v, v = wholeU p u.code k j := ⟨_, rfl⟩
              rw [← hv]
              cases v with
              | false =>
                have HNO : Hid (wholeB p u.code k = false) := hid (by unfold wholeB; rw [← HI.out.1, HNA.out.1]; exact wholeU_no hj hv.symm)
                have HBO := hid HY.out
                clear hv
                go_wp2_with fail
                go_roundg (u.code.length - (k + 1))
                case measure => omega
                case rel =>
                  have hst : hdU p u.code (k + 1) = hdU p u.code k := by
                    rw [hdU_succ]
                    unfold hdStep
                    rw [HNO.out, Bool.and_false]
                    rfl
                  refine ⟨k + 1, by omega, rfl, by go_num, hid ?_⟩
                  rw [hst]
                  exact ⟨HX4.out.1.below HBO.out, HX4.out.2.1.below HBO.out, HX4.out.2.2.step HBO.out⟩
              | true =>
                have hak : a ≤ k := by
                  have h := hv
                  unfold wholeU at h
                  rw [← HI.out.1, HNA.out.1] at h
                  have h2 := (Bool.and_eq_true _ _ ▸ h.symm).1
                  simpa using h2
                by_cases hja : j < a
                · have HV := hid hv
                  clear hv
                  obtain ⟨r, hr⟩ : ∃ r, r = k - a := ⟨_, rfl⟩
                  have e1 : (k : Int) - (a : Int) = (r : Int) := by omega
                  obtain ⟨t, ht⟩ : ∃ t, t = r + j := ⟨_, rfl⟩
                  have e2 : (r : Int) + (j : Int) = (t : Int) := by omega
                  have htl : t < u.code.length := by omega
                  have nt : (t : Int) < (u.code.length : Int) := by omega
                  have HR := hid (show t = k - a + j by omega)
                  clear hr ht
                  obtain ⟨_, _, hca, -, d0, d1, d2, d3⟩ := (HC.out.below (HB.out.step (HX4.out.2.2.step HY.out))) t htl
                  cases hca
                  obtain ⟨x, hx⟩ : ∃ x, x = u.code.getD t ins0 := ⟨_, rfl⟩
                  have hxx : u.code[t] = x := (getD_in htl).symm.trans hx.symm
                  rw [hxx] at d0 d1 d2 d3
                  have HXS := hid hx
                  clear hx hxx
                  have k5 := (box7 (keepBox (HX4.out.2.2.step HY.out) HX3.out)).2.2.2.2.2.1
                  have HE : Hid (wholeU p u.code k (j + 1) = (x.op == 19 && x.a == (j : Int))) := hid (by rw [wholeU_succ, ← HV.out, ← HI.out.1, HNA.out.1, ← HR.out, ← HXS.out]; rfl)
                  cases h19 : (x.op == 19) with
                  | true =>
                    have HO2 := hid h19
                    go_wp2_with fail
                    go_roundg (a - (j + 1))
                    case measure => omega
                    case rel =>
                      refine ⟨j + 1, by omega, rfl, by go_num, ?_, hid (HY.out.step (bnew _ _))⟩
                      rw [HE.out, HO2.out]
                      rfl
                  | false =>
                    have HO2 := hid h19
                    go_wp2_with fail
                    go_roundg (a - (j + 1))
                    case measure => omega
                    case rel =>
                      refine ⟨j + 1, by omega, rfl, by go_num, ?_, hid (HY.out.step (bnew _ _))⟩
                      rw [HE.out, HO2.out]
                      rfl
                · obtain rfl : j = a := by omega
                  have HYES : Hid (wholeB p u.code k = true) := hid (by unfold wholeB; rw [← HI.out.1, HNA.out.1]; exact hv.symm)
                  have HBO := hid HY.out
                  have HX5 := hid (And.intro (HX4.out.1.below HBO.out) (And.intro (HX4.out.2.1.below HBO.out) (HX4.out.2.2.step HBO.out)))
                  clear hv
                  obtain ⟨r, hr⟩ : ∃ r, r = k - j := ⟨_, rfl⟩
                  have e1 : (k : Int) - (j : Int) = (r : Int) := by omega
                  have HR := hid hr
                  have hrk : r ≤ k := by omega
                  clear hr
                  go_upto_region 22 with fail
                  generalize wr = w5 at *
                  go_loopg [17] (k + 1 - r) (fun gh s17 wr => ∃ t : Nat, r ≤ t ∧ t ≤ k + 1 ∧ gh = k + 1 - t ∧ s17 = .int .i64 t ∧ Hid (BI wr gH (mark (hdU p u.code k).1 r (t - r) (r : Int)) ∧ BB wr gB (mark (hdU p u.code k).2 r (t - r) true) ∧ Below w0.heap.size w0 wr))
                  case atStart => exact ⟨r, Nat.le_refl _, by omega, rfl, rfl, hid (by rw [Nat.sub_self]; exact HX5.out)⟩
                  case round =>
                    obtain ⟨t, hrt, htk, rfl, rfl, HZ⟩ := hrel
                    by_cases hlt : t < k + 1
                    · have hle : (t : Int) ≤ (k : Int) := by omega
                      have nt : (t : Int) < (u.code.length : Int) := by omega
                      have hl1 : t < (mark (hdU p u.code k).1 r (t - r) (r : Int)).length := by rw [mark_length, (hdU_length p u.code k).1]; omega
                      have hl2 : t < (mark (hdU p u.code k).2 r (t - r) true).length := by rw [mark_length, (hdU_length p u.code k).2]; omega
                      have hat := HZ.out.1.at hl1
                      have hbt := HZ.out.2.1.at hl2
                      have hfr := HZ.out.1.frozen t
                      have hfb := HZ.out.2.1.frozen t
                      have hne := HGS.out.2.2
                      generalize (mark (hdU p u.code k).1 r (t - r) (r : Int))[t] = o1 at hat
                      generalize (mark (hdU p u.code k).2 r (t - r) true)[t] = o2 at hbt
                      have HL1 := hid hl1
                      have HL2 := hid hl2
                      clear hl1 hl2
                      go_wp2_with fail
                      go_roundg (k + 1 - (t + 1))
                      case measure => omega
                      case rel =>
                        have e9 : t + 1 - r = (t - r) + 1 := by omega
                        have e8 : r + (t - r) = t := by omega
                        refine ⟨t + 1, by omega, by omega, rfl, by go_num, hid ?_⟩
                        rw [e9, mark_succ, mark_succ, e8]
                        refine ⟨?_, ?_, ?_⟩
                        · refine (HZ.out.1.set HL1.out (r : Int)).keep ?_
                          exact Below.heap_setCell _ _ _ _ HGS.out.2.2
                        · refine BB.set (HZ.out.2.1.keep ?_) HL2.out true
                          exact Below.heap_setCell _ _ _ _ HGS.out.2.2.symm
                        · exact (HZ.out.2.2.setCell (p := ⟨gH, t, none⟩) HGS.out.1 _).setCell (p := ⟨gB, t, none⟩) HGS.out.2.1 _
                    · obtain rfl : t = k + 1 := by omega
                      go_wp2_with fail
                      go_roundg (u.code.length - (k + 1))
                      case measure => omega
                      case rel =>
                        have hst : hdU p u.code (k + 1) = (mark (hdU p u.code k).1 r (j + 1) (r : Int), mark (hdU p u.code k).2 r (j + 1) true) := by
                          rw [hdU_succ]
                          unfold hdStep
                          rw [HYES.out, ← HI.out.1, HCB.out, HNA.out.1, ← HR.out]
                          rfl
                        refine ⟨k + 1, by omega, rfl, by go_num, hid ?_⟩
                        rw [hst]
                        have e9 : k + 1 - r = j + 1 := by have := HR.out; omega
                        have h := HZ.out
                        rw [e9] at h
                        exact h
        · have hkn : k = u.code.length := by omega
          subst hkn
          go_upto_region 27 with fail
          have HX6 : Hid (BI wr gH (headL p u.code) ∧ BB wr gB (grpL p u.code) ∧ Below w0.heap.size w0 wr) := hid HX.out
          clear HX
          generalize wr = w6 at *
          go_loopg [114] u.code.length (fun gh s114 wr => ∃ k : Nat, k ≤ u.code.length ∧ gh = u.code.length - k ∧ s114 = .int .i64 k ∧ Hid (BI wr gH (headL p u.code) ∧ BB wr gB (grpL p u.code) ∧ Below w0.heap.size w0 wr) ∧ Hid (∀ j, j < k → loneB p u.code j = false))
          case atStart => exact ⟨0, Nat.zero_le _, rfl, rfl, HX6, hid (fun j hj => by omega)⟩
          case round =>
            obtain ⟨k, hk, rfl, rfl, HX, HN⟩ := hrel
            clear k0 k1 k2 k3 k4 k5 k6
            obtain ⟨k0, k1, k2, k3, k4, k5, k6⟩ := box7 (keepBox HX.out.2.2 HX3.out)
            by_cases hlk : k < u.code.length
            · have nk : (k : Int) < (u.code.length : Int) := by omega
              obtain ⟨i, hi⟩ : ∃ i, i = u.code.getD k ins0 := ⟨_, rfl⟩
              have hii : u.code[k] = i := (getD_in hlk).symm.trans hi.symm
              obtain ⟨b, off, hca, -, c0, c1, c2, c3⟩ := (HC.out.below (HB.out.step HX.out.2.2)) k hlk
              rw [hii] at c0 c1 c2 c3
              subst hca
              have hgl : k < (grpL p u.code).length := by rw [show (grpL p u.code).length = u.code.length from (hdU_length p u.code _).2]; exact hlk
              obtain ⟨g, hg⟩ : ∃ g, g = (grpL p u.code).getD k false := ⟨_, rfl⟩
              have hat := HX.out.2.1.at hgl
              rw [(getD_in hgl).symm.trans hg.symm] at hat
              have HE : Hid (loneB p u.code k = ((callB i || i.op == 19) && !g)) := hid (by unfold loneB; rw [← hi, ← hg])
              clear hi hii hg hgl
              cases hcb : callB i with
              | true =>
                have HCA := hid (fun w => (hcb ▸ called_any i w : Calls Try.prog 71 #[vI i] w (Ret2 (.int .i64 (callC i)) (.bool true) w)))
                cases h19 : (i.op == 19) with
                | true =>
                  cases g with
                  | true =>
                    have HV : Hid (loneB p u.code k = false) := hid (by rw [HE.out, hcb, h19]; rfl)
                    clear hcb
                    go_wp2_with (go_at_call 71; (with_reducible refine (HCA.out _).mono ?_); rintro e w7 ⟨rfl, hb⟩; have HB7 := hid ((bnew wr (.cells #[.int .i64 i.op, .int .i64 i.a, .int .i64 i.b, .int .i64 i.c] 113)).step hb); obtain ⟨d0, d1, d2, d3⟩ := box4 (keepBox hb (heapn wr (.cells #[.int .i64 i.op, .int .i64 i.a, .int .i64 i.b, .int .i64 i.c] 113) _ rfl)); replace hat := cell_later HB7.out hat; clear hb)
                    go_roundg (u.code.length - (k + 1))
                    case measure => omega
                    case rel => exact ⟨k + 1, by omega, rfl, by go_num, hid ⟨HX.out.1.below HB7.out, HX.out.2.1.below HB7.out, HX.out.2.2.step HB7.out⟩, hid (fun j hj => by rcases (show j < k ∨ j = k by omega) with h | rfl; exact HN.out j h; exact HV.out)⟩
                  | false =>
                    have HV : Hid (loneB p u.code k = true) := hid (by rw [HE.out, hcb, h19]; rfl)
                    clear hcb
                    go_wp2_with (go_at_call 71; (with_reducible refine (HCA.out _).mono ?_); rintro e w7 ⟨rfl, hb⟩; have HB7 := hid ((bnew wr (.cells #[.int .i64 i.op, .int .i64 i.a, .int .i64 i.b, .int .i64 i.c] 113)).step hb); obtain ⟨d0, d1, d2, d3⟩ := box4 (keepBox hb (heapn wr (.cells #[.int .i64 i.op, .int .i64 i.a, .int .i64 i.b, .int .i64 i.c] 113) _ rfl)); replace hat := cell_later HB7.out hat; clear hb)
                    refine bodyPost_ret (results_tmp2 rfl _ _ _) rfl ?_
                    exact ⟨HB.out.step (HX.out.2.2.step HB7.out), gH, by rw [headE_yes hlk HV.out HN.out]; rfl, HX.out.1.below HB7.out, by have := HGS.out.1; have := HSZ.out; omega⟩
                | false =>
                  cases g with
                  | true =>
                    have HV : Hid (loneB p u.code k = false) := hid (by rw [HE.out, hcb, h19]; rfl)
                    clear hcb
                    go_wp2_with (go_at_call 71; (with_reducible refine (HCA.out _).mono ?_); rintro e w7 ⟨rfl, hb⟩; have HB7 := hid ((bnew wr (.cells #[.int .i64 i.op, .int .i64 i.a, .int .i64 i.b, .int .i64 i.c] 113)).step hb); obtain ⟨d0, d1, d2, d3⟩ := box4 (keepBox hb (heapn wr (.cells #[.int .i64 i.op, .int .i64 i.a, .int .i64 i.b, .int .i64 i.c] 113) _ rfl)); replace hat := cell_later HB7.out hat; clear hb)
                    go_roundg (u.code.length - (k + 1))
                    case measure => omega
                    case rel => exact ⟨k + 1, by omega, rfl, by go_num, hid ⟨HX.out.1.below HB7.out, HX.out.2.1.below HB7.out, HX.out.2.2.step HB7.out⟩, hid (fun j hj => by rcases (show j < k ∨ j = k by omega) with h | rfl; exact HN.out j h; exact HV.out)⟩
                  | false =>
                    have HV : Hid (loneB p u.code k = true) := hid (by rw [HE.out, hcb, h19]; rfl)
                    clear hcb
                    go_wp2_with (go_at_call 71; (with_reducible refine (HCA.out _).mono ?_); rintro e w7 ⟨rfl, hb⟩; have HB7 := hid ((bnew wr (.cells #[.int .i64 i.op, .int .i64 i.a, .int .i64 i.b, .int .i64 i.c] 113)).step hb); obtain ⟨d0, d1, d2, d3⟩ := box4 (keepBox hb (heapn wr (.cells #[.int .i64 i.op, .int .i64 i.a, .int .i64 i.b, .int .i64 i.c] 113) _ rfl)); replace hat := cell_later HB7.out hat; clear hb)
                    refine bodyPost_ret (results_tmp2 rfl _ _ _) rfl ?_
                    exact ⟨HB.out.step (HX.out.2.2.step HB7.out), gH, by rw [headE_yes hlk HV.out HN.out]; rfl, HX.out.1.below HB7.out, by have := HGS.out.1; have := HSZ.out; omega⟩
              | false =>
                have HCA := hid (fun w => (hcb ▸ called_any i w : Calls Try.prog 71 #[vI i] w (Ret2 (.int .i64 (callC i)) (.bool false) w)))
                cases h19 : (i.op == 19) with
                | true =>
                  cases g with
                  | true =>
                    have HV : Hid (loneB p u.code k = false) := hid (by rw [HE.out, hcb, h19]; rfl)
                    clear hcb
                    go_wp2_with (go_at_call 71; (with_reducible refine (HCA.out _).mono ?_); rintro e w7 ⟨rfl, hb⟩; have HB7 := hid ((bnew wr (.cells #[.int .i64 i.op, .int .i64 i.a, .int .i64 i.b, .int .i64 i.c] 113)).step hb); obtain ⟨d0, d1, d2, d3⟩ := box4 (keepBox hb (heapn wr (.cells #[.int .i64 i.op, .int .i64 i.a, .int .i64 i.b, .int .i64 i.c] 113) _ rfl)); replace hat := cell_later HB7.out hat; clear hb)
                    go_roundg (u.code.length - (k + 1))
                    case measure => omega
                    case rel => exact ⟨k + 1, by omega, rfl, by go_num, hid ⟨HX.out.1.below HB7.out, HX.out.2.1.below HB7.out, HX.out.2.2.step HB7.out⟩, hid (fun j hj => by rcases (show j < k ∨ j = k by omega) with h | rfl; exact HN.out j h; exact HV.out)⟩
                  | false =>
                    have HV : Hid (loneB p u.code k = true) := hid (by rw [HE.out, hcb, h19]; rfl)
                    clear hcb
                    go_wp2_with (go_at_call 71; (with_reducible refine (HCA.out _).mono ?_); rintro e w7 ⟨rfl, hb⟩; have HB7 := hid ((bnew wr (.cells #[.int .i64 i.op, .int .i64 i.a, .int .i64 i.b, .int .i64 i.c] 113)).step hb); obtain ⟨d0, d1, d2, d3⟩ := box4 (keepBox hb (heapn wr (.cells #[.int .i64 i.op, .int .i64 i.a, .int .i64 i.b, .int .i64 i.c] 113) _ rfl)); replace hat := cell_later HB7.out hat; clear hb)
                    refine bodyPost_ret (results_tmp2 rfl _ _ _) rfl ?_
                    exact ⟨HB.out.step (HX.out.2.2.step HB7.out), gH, by rw [headE_yes hlk HV.out HN.out]; rfl, HX.out.1.below HB7.out, by have := HGS.out.1; have := HSZ.out; omega⟩
                | false =>
                  cases g with
                  | true =>
                    have HV : Hid (loneB p u.code k = false) := hid (by rw [HE.out, hcb, h19]; rfl)
                    clear hcb
                    go_wp2_with (go_at_call 71; (with_reducible refine (HCA.out _).mono ?_); rintro e w7 ⟨rfl, hb⟩; have HB7 := hid ((bnew wr (.cells #[.int .i64 i.op, .int .i64 i.a, .int .i64 i.b, .int .i64 i.c] 113)).step hb); obtain ⟨d0, d1, d2, d3⟩ := box4 (keepBox hb (heapn wr (.cells #[.int .i64 i.op, .int .i64 i.a, .int .i64 i.b, .int .i64 i.c] 113) _ rfl)); replace hat := cell_later HB7.out hat; clear hb)
                    go_roundg (u.code.length - (k + 1))
                    case measure => omega
                    case rel => exact ⟨k + 1, by omega, rfl, by go_num, hid ⟨HX.out.1.below HB7.out, HX.out.2.1.below HB7.out, HX.out.2.2.step HB7.out⟩, hid (fun j hj => by rcases (show j < k ∨ j = k by omega) with h | rfl; exact HN.out j h; exact HV.out)⟩
                  | false =>
                    have HV : Hid (loneB p u.code k = false) := hid (by rw [HE.out, hcb, h19]; rfl)
                    clear hcb
                    go_wp2_with (go_at_call 71; (with_reducible refine (HCA.out _).mono ?_); rintro e w7 ⟨rfl, hb⟩; have HB7 := hid ((bnew wr (.cells #[.int .i64 i.op, .int .i64 i.a, .int .i64 i.b, .int .i64 i.c] 113)).step hb); obtain ⟨d0, d1, d2, d3⟩ := box4 (keepBox hb (heapn wr (.cells #[.int .i64 i.op, .int .i64 i.a, .int .i64 i.b, .int .i64 i.c] 113) _ rfl)); replace hat := cell_later HB7.out hat; clear hb)
                    go_roundg (u.code.length - (k + 1))
                    case measure => omega
                    case rel => exact ⟨k + 1, by omega, rfl, by go_num, hid ⟨HX.out.1.below HB7.out, HX.out.2.1.below HB7.out, HX.out.2.2.step HB7.out⟩, hid (fun j hj => by rcases (show j < k ∨ j = k by omega) with h | rfl; exact HN.out j h; exact HV.out)⟩
            · have hkn : k = u.code.length := by omega
              subst hkn
              go_wp2_with fail
              refine bodyPost_ret (results_tmp2 rfl _ _ _) rfl ?_
              exact ⟨HB.out.step HX.out.2.2, gH, by rw [headE_no HN.out]; rfl, HX.out.1, by have := HGS.out.1; have := HSZ.out; omega⟩
end Go.Proofs.Ytecpkjhfbmchgaa
