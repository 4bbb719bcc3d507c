/- The walk of TableOfProgram. -/
import Derived.Test.YtecpkjhfbmchgaaU38
import Derived.Test.YtecpkjhfbmchgaaG24
namespace Go.Proofs.Ytecpkjhfbmchgaa
open Go.RowKit

set_option maxRecDepth 100000 in
set_option maxHeartbeats 8000000 in
theorem top_any (p : PrgN) (q : PlN) (r c : Int) (w : World) (ho : p.shapes.length ≤ 6 ∧ p.sels.length ≤ 30 ∧ p.units.length ≤ 12 → PgOk w p q) (hr : 0 ≤ r ∧ r ≤ 255) (hc : 0 ≤ c ∧ c ≤ 255) : Calls Try.prog 3 #[vP p q, .int .u8 r, .int .u8 c] w (RetB (.bool true) w) := by
  have HO0 := hid ho; clear ho
  obtain ⟨sa, sc, la, lc, ua, uc⟩ := q
  have HX := hid (heapn w (.cells #[.slice sa p.shapes.length sc, .slice la p.sels.length lc, .slice ua p.units.length uc, .int .i64 p.main, .int .i64 p.mk'] 26) _ rfl)
  have HB := hid (bnew w (.cells #[.slice sa p.shapes.length sc, .slice la p.sels.length lc, .slice ua p.units.length uc, .int .i64 p.main, .int .i64 p.mk'] 26))
  go_enter Try.func3, Try.ntmps3
  go_upto_region 1 with fail
  generalize w.alloc (.cells #[.slice sa p.shapes.length sc, .slice la p.sels.length lc, .slice ua p.units.length uc, .int .i64 p.main, .int .i64 p.mk'] 26) = w0 at *
  obtain ⟨j0, j1, j2, j3, j4⟩ := box5' HX.out
  by_cases hlim : p.shapes.length ≤ 6 ∧ p.sels.length ≤ 30 ∧ p.units.length ≤ 12
  · have HO := hid (HO0.out hlim)
    obtain ⟨h6, h30, h12⟩ := hlim
    have c1 : decide ((6 : Int) < (p.shapes.length : Int)) = false := decide_eq_false (by omega)
    have c2 : decide ((30 : Int) < (p.sels.length : Int)) = false := decide_eq_false (by omega)
    have c3 : decide ((12 : Int) < (p.units.length : Int)) = false := decide_eq_false (by omega)
    obtain ⟨E, hEE⟩ : ∃ E, E = (chkP p).1 := ⟨_, rfl⟩
    have hsx := HO.out.h1
    by_cases hE : (chkP p).1 = 0
    · obtain ⟨hm, hcol⟩ := mx_right hE h6 h30 h12
      have hp := chkP_right hE
      have HTL := hid (fun k (hk : k < p.shapes.length) => (shp_right hk (hp.shp k hk)).2.1)
      have n0 : 0 < p.shapes.length := hp.some'
      have HMX := hid (fun w1 (hb : Below w.heap.size w w1) => (by
        have := matrixOf_any p ⟨sa, sc, la, lc, ua, uc⟩ w1 (HO.out.below hb) (fun _ s hs => by
          obtain ⟨k, hk, rfl⟩ := List.getElem_of_mem hs
          rw [HTL.out k hk]
          omega)
        unfold MxV at this
        rw [if_pos hE, hE] at this
        exact this : Calls Try.prog 5 #[vP p ⟨sa, sc, la, lc, ua, uc⟩] w1 (MatRet (tablesOf p) 0 w1)))
      have HM := hid hm
      have HCOL := hid hcol
      clear hm hcol hp hE hEE
      go_wp2_with (go_at_call 5; (with_reducible refine (HMX.out _ HB.out).mono ?_); rintro e w1 ⟨hb, a9, c9, rfl, hrm⟩; rw [tables_length]; have HRM := hid hrm; replace HB := hid (HB.out.step hb); replace HX := hid (keepBox hb HX.out); clear j0 j1 j2 j3 j4; obtain ⟨j0, j1, j2, j3, j4⟩ := box5' HX.out; clear hb hrm)
      have hLY := fun (w2 : World) (h : RdM w2 a9 (tablesOf p)) => (by
        have := Lay_any (tablesOf p) a9 c9 w2 h (fun _ => by rw [tables_length]; omega) (by rw [tables_length]; omega) (fun r hr => by
          obtain ⟨i, hi, rfl⟩ := List.getElem_of_mem hr
          rw [HM.out.len i hi, HCOL.out]
          omega)
        rw [chkM_zero HM.out, show layV (tablesOf p) = layR (tablesOf p) from if_pos (chkM_zero HM.out), tables_length] at this
        exact this : Calls Try.prog 7 #[.slice a9 p.shapes.length c9] w2 (LdRet2 (layR (tablesOf p)) 0 w2))
      have HLY := hid hLY
      clear hLY
      go_loopg [9] p.shapes.length (fun gh s9 wr => ∃ k : Nat, k ≤ p.shapes.length ∧ gh = p.shapes.length - k ∧ s9 = .int .i64 k ∧ Hid (Below w1.heap.size w1 wr))
      case atStart => exact ⟨0, Nat.zero_le _, rfl, rfl, hid (Below.refl _ _)⟩
      case round =>
        obtain ⟨k, hk, rfl, rfl, HBR⟩ := hrel
        by_cases hlk : k < p.shapes.length
        · -- [[
          have nk : (k : Int) < (p.shapes.length : Int) := by omega
          have hkt : k < (tablesOf p).length := by rw [tables_length]; exact hlk
          obtain ⟨b9, o9, ha9, _, ai, ci, hci, hrow⟩ := (HRM.out.below HBR.out) k hkt
          obtain ⟨b, off, fa, fc, ta, tc, hsa, _, g0, g1, g2, g3, hrf, hrt, htc⟩ := (HO.out.pm.rh.below (HB.out.step HBR.out)) k hlk
          have hle := HTL.out k hlk
          simp only [tables_at hkt] at hci hrow
          generalize p.shapes[k] = s at *
          have HSI := hid (fun w2 (hb : Below wr.heap.size wr w2) => (by
            have := same_ints s.table s.table ai ta ci tc w2 (hrow.below hb) (hrt.below hb) (by omega) (by omega)
            rw [decide_eq_true rfl] at this
            exact this : Calls Try.prog 6 #[.slice ai s.table.length ci, .slice ta s.table.length tc] w2 (RetB (.bool true) w2)))
          have k0 := keepBox HBR.out HX.out
          clear j0 j1 j2 j3 j4 hrf hrt hrow hkt hle htc
          obtain ⟨j0, j1, j2, j3, j4⟩ := box5' k0
          dsimp only at hsa
          subst hsa ha9
          have q0 := fun d os => cell_regrown j0 d os
          have q1 := fun d os => cell_regrown hci d os
          have q2 := fun d os => cell_regrown g2 d os
          go_upto_region 11 with fail
          refine wp_region_quiet_below (by kernel_rfl) (by kernel_rfl) ?_
          repeat (go_big_quiet_step ((go_at_call 6; exact Calls.regrown_of (HSI.out _ (below_regrown _ _ _)))))
          refine wpQuiet_nil ?_
          rintro _ ⟨p9, rfl⟩
          have hb9 := below_regrown wr p9.d p9.os
          generalize Go.Sort.grow (redrawn wr p9.d) p9.os = wq at *
          clear q0 q1 q2
          go_wp2
          go_roundg (p.shapes.length - (k + 1))
          case measure => omega
          case rel => exact ⟨k + 1, by omega, rfl, by go_num, hid (HBR.out.step hb9)⟩
        · obtain rfl : k = p.shapes.length := by omega
          obtain ⟨hsl, hcl, hfit⟩ := lay_fit HM.out (by rw [tables_length]; omega)
          rw [tables_length] at hsl
          have HB2 := hid (HB.out.step HBR.out)
          have HXR := hid (keepBox HBR.out HX.out)
          have HRM2 := hid (HRM.out.below HBR.out)
          clear j0 j1 j2 j3 j4
          obtain ⟨j0, j1, j2, j3, j4⟩ := box5' HXR.out
          have HSL := hid hsl
          have HLV := hid (show (layR (tablesOf p)).cols = (p.sels.length : Int) by rw [← HCOL.out]; rfl)
          have HFIT := hid hfit
          obtain ⟨cn, hcn⟩ : ∃ k, k = (layR (tablesOf p)).cells.length := ⟨_, rfl⟩
          have HCN := hid hcn
          clear hcn hcl hsl hfit
          go_upto_region 16 with (go_at_call 7; refine (HLY.out _ HRM2.out).mono ?_; rintro e w2 ⟨hb, sa2, sc2, ca2, cc2, rfl, hld⟩; rw [show vL (layR (tablesOf p)) sa2 sc2 ca2 cc2 = .agg #[.int .i64 p.sels.length, .slice sa2 p.shapes.length sc2, .slice ca2 cn cc2] from by unfold vL; rw [HSL.out, ← HCN.out, HLV.out]]; have HX10 := hid (heapn w2 (.cells #[.int .i64 p.sels.length, .slice sa2 p.shapes.length sc2, .slice ca2 cn cc2] 38) _ rfl); have hb2 := hb.step (bnew w2 (.cells #[.int .i64 p.sels.length, .slice sa2 p.shapes.length sc2, .slice ca2 cn cc2] 38)); have HLD := hid (hld.below (bnew w2 (.cells #[.int .i64 p.sels.length, .slice sa2 p.shapes.length sc2, .slice ca2 cn cc2] 38))); have HB3 := hid (HB2.out.step hb2); have HXS := hid (keepBox hb2 HXR.out); clear j0 j1 j2 j3 j4; obtain ⟨j0, j1, j2, j3, j4⟩ := box5' HXS.out; clear hb hb2 hld)
          by_cases hz : p.sels.length = 0
          · have hz1 : ((p.sels.length : Int) == 0) = true := by rw [hz]; rfl
            clear hz
            go_wp2_with (go_at_call 4; refine (sanity_any _).mono ?_; rintro e w9 ⟨rfl, hb⟩; have HB9 := hid hb; clear hb)
            go_ret
            exact ⟨rfl, HB3.out.step HB9.out⟩
          · have hz1 : ((p.sels.length : Int) == 0) = false := by rw [beq_eq_false_iff_ne]; omega
            have ncp : (0 : Int) < (p.sels.length : Int) := by omega
            have nrp : (0 : Int) < (p.shapes.length : Int) := by omega
            obtain ⟨hr0, hr1⟩ := hr
            obtain ⟨hc0, hc1⟩ := hc
            obtain ⟨r, rfl⟩ : ∃ k : Nat, r = (k : Int) := ⟨r.toNat, by omega⟩
            obtain ⟨c, rfl⟩ : ∃ k : Nat, c = (k : Int) := ⟨c.toNat, by omega⟩
            clear hz
            go_upto_region 20 with fail
            obtain ⟨i, hie⟩ : ∃ i : Nat, (i : Int) = (r : Int) % (p.shapes.length : Int) := ⟨r % p.shapes.length, by rw [Int.natCast_emod]⟩
            obtain ⟨k, hke⟩ : ∃ k : Nat, (k : Int) = (c : Int) % (p.sels.length : Int) := ⟨c % p.sels.length, by rw [Int.natCast_emod]⟩
            have hi : i < p.shapes.length := by
              have := Int.emod_lt_of_pos (r : Int) nrp
              omega
            have hkk : k < p.sels.length := by
              have := Int.emod_lt_of_pos (c : Int) ncp
              omega
            rw [← hie, ← hke]
            clear hie hke
            have hit : i < (tablesOf p).length := by rw [tables_length]; exact hi
            have hktl : k < p.shapes[i].table.length := by rw [HTL.out i hi]; exact hkk
            have hent : ent (tablesOf p) i k = p.shapes[i].table[k] := by
              unfold ent
              rw [getD_in hit, tables_at hit, getD_in hktl]
            have HLK := hid (fun (w3 : World) (h : LdM w3 (layR (tablesOf p)) sa2 sc2 ca2 cc2) => (by
              have := Look_any (layR (tablesOf p)) HFIT.out i k sa2 sc2 ca2 cc2 w3 h
              rw [(look_lay HM.out hit (by rw [HCOL.out]; exact hkk)).1, (look_lay HM.out hit (by rw [HCOL.out]; exact hkk)).2, hent] at this
              unfold vL at this
              rw [HSL.out, HLV.out, ← HCN.out] at this
              exact this : Calls Try.prog 8 #[.agg #[.int .i64 p.sels.length, .slice sa2 p.shapes.length sc2, .slice ca2 cn cc2], .int .i64 i, .int .i64 k] w3 (Ret2 (.int .i64 p.shapes[i].table[k]) (.int .i64 0) w3)))
            obtain ⟨b, off, fa, fc, ta, tc, hsa, _, _, _, g2, _, _, hrt, _⟩ := (HO.out.pm.rh.below HB3.out) i hi
            obtain ⟨tb, to', hta, _, t0⟩ := hrt k hktl
            have nti : (k : Int) < (p.shapes[i].table.length : Int) := by omega
            have ni : (i : Int) < (p.shapes.length : Int) := by omega
            have nk : (k : Int) < (p.sels.length : Int) := by omega
            clear hent hrt hit
            generalize p.shapes[i].table[k]'_ = te at *
            generalize p.shapes[i] = s at *
            dsimp only at hsa
            subst hsa hta
            have HG2 := hid g2
            have HT0 := hid t0
            obtain ⟨x0, x1, x2, _, _, _⟩ := box3 HX10.out
            clear g2 t0
            go_wp2_with (first
              | (go_at_call 8; ((with_reducible refine (HLK.out _ HLD.out).mono ?_); rintro e w7 ⟨rfl, hb⟩); have HB7 := hid (HB3.out.step hb); have HXT := hid (keepBox hb HXS.out); have HG3 := hid (cell_later hb HG2.out); have HT3 := hid (cell_later hb HT0.out); clear hb)
              | (go_at_call 4; (refine (sanity_any _).mono ?_); rintro e w9 ⟨rfl, hb⟩; have HB9 := hid (HB7.out.step hb); have g2 := cell_later hb HG3.out; have t0 := cell_later hb HT3.out; clear j0 j1 j2 j3 j4; obtain ⟨j0, j1, j2, j3, j4⟩ := box5' (keepBox hb HXT.out); clear hb))
            go_ret
            exact ⟨rfl, HB9.out⟩
    · have HMX := hid (fun w1 (hb : Below w.heap.size w w1) => (by
        have := matrixOf_any p ⟨sa, sc, la, lc, ua, uc⟩ w1 (HO.out.below hb) (fun h => absurd h hE)
        unfold MxV at this
        rw [if_neg hE, ← hEE] at this
        exact this : Calls Try.prog 5 #[vP p ⟨sa, sc, la, lc, ua, uc⟩] w1 (MatRet [] E w1)))
      have en : (E != 0) = true := by rw [hEE]; simpa using hE
      have ee : (E == 0) = false := by rw [hEE]; simpa using hE
      clear hE hEE
      go_wp2_with (first
        | (go_at_call 5; (with_reducible refine (HMX.out _ HB.out).mono ?_); rintro e w1 ⟨hb, a9, c9, rfl, _⟩; rw [List.length_nil]; replace HB := hid (HB.out.step hb); clear hb)
        | (go_at_call 4; refine (sanity_any _).mono ?_; rintro e w9 ⟨rfl, hb⟩; have HB9 := hid hb; clear hb))
      go_ret
      exact ⟨rfl, HB.out.step HB9.out⟩
  · cases c1 : decide ((6 : Int) < (p.shapes.length : Int)) with
    | true =>
      go_wp2_with (go_at_call 4; refine (sanity_any _).mono ?_; rintro e w9 ⟨rfl, hb⟩; have HB9 := hid hb; clear hb)
      go_ret
      exact ⟨rfl, HB.out.step HB9.out⟩
    | false =>
      cases c2 : decide ((30 : Int) < (p.sels.length : Int)) with
      | true =>
        go_wp2_with (go_at_call 4; refine (sanity_any _).mono ?_; rintro e w9 ⟨rfl, hb⟩; have HB9 := hid hb; clear hb)
        go_ret
        exact ⟨rfl, HB.out.step HB9.out⟩
      | false =>
        have c3 : decide ((12 : Int) < (p.units.length : Int)) = true := by simp at c1 c2 ⊢; omega
        clear hlim
        go_wp2_with (go_at_call 4; refine (sanity_any _).mono ?_; rintro e w9 ⟨rfl, hb⟩; have HB9 := hid hb; clear hb)
        go_ret
        exact ⟨rfl, HB.out.step HB9.out⟩
end Go.Proofs.Ytecpkjhfbmchgaa
