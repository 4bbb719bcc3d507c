/- The contract of the reference's CheckLaid. -/
import Derived.Test.YtliajnflmddnoaaQ7
namespace Go.Proofs.Ytliajnflmddnoaa
open Go.RowKit

theorem badS_in (n s : Int) (k : Nat) : badS n k s = ((s != -1) && !inB s 0 ((k : Int) - n)) := by
  unfold badS inB
  rw [Bool.eq_iff_iff]
  simp
  omega
theorem any_bad {L : Ld} {k : Nat} (hk : k < L.starts.length) (h : badS L.cols L.cells.length (L.st k) = true) : L.starts.any (badS L.cols L.cells.length) = true := by
  refine List.any_eq_true.2 ⟨_, List.getElem_mem hk, ?_⟩
  unfold Ld.st at h
  rwa [getD_in hk] at h
theorem any_good {L : Ld} (h : ∀ i, i < L.starts.length → badS L.cols L.cells.length (L.st i) = false) : L.starts.any (badS L.cols L.cells.length) = false := by
  rw [List.any_eq_false]
  intro x hx
  obtain ⟨i, hi, rfl⟩ := List.getElem_of_mem hx
  have := h i hi
  unfold Ld.st at this
  rw [getD_in hi] at this
  simp [this]
theorem in_rows (n : Nat) (x : Int) : inB x 0 ((n : Int) - 1) = (decide (0 ≤ x) && decide (x < n)) := by
  unfold inB
  rw [Bool.eq_iff_iff]
  simp
  omega

set_option maxRecDepth 100000 in
set_option maxHeartbeats 4000000 in
theorem rcheckL_bad (L : Ld) (hf : Fit L) (sa : Option Addr) (sc : Nat) (ca : Option Addr) (cc : Nat) (w : World)
    (hb : (60 < L.starts.length ∨ 30000 < L.cells.length) ∨ ¬ (0 ≤ L.cols ∧ L.cols ≤ 400)) :
    Calls Try.prog 37 #[vL L sa sc ca cc] w (RetB (.int .i64 (chkL L)) w) := by
  have h1 := hf.s
  have h2 := hf.c
  clear hf
  obtain ⟨n, S, C⟩ := L
  simp only at *
  have HB := hid (bnew w (.cells #[.int .i64 n, .slice sa S.length sc, .slice ca C.length cc] 44))
  obtain ⟨k0, k1, k2, _, _, _⟩ := box3 (heapn w (.cells #[.int .i64 n, .slice sa S.length sc, .slice ca C.length cc] 44) _ rfl)
  by_cases hs : 60 < S.length
  · have HV := hid (chkL_lim (L := ⟨n, S, C⟩) (.inl hs))
    clear hb
    have hs' : (60 : Int) < (S.length : Int) := by omega
    have d1 : decide ((60 : Int) < (S.length : Int)) = true := decide_eq_true hs'
    go_enter Try.func37, Try.ntmps37
    go_wp2
    go_ret
    exact ⟨ret_int HV.out.symm, HB.out⟩
  · have hs' : ¬ (60 : Int) < (S.length : Int) := by omega
    have d1 : decide ((60 : Int) < (S.length : Int)) = false := decide_eq_false hs'
    by_cases hc : 30000 < C.length
    · have HV := hid (chkL_lim (L := ⟨n, S, C⟩) (.inr hc))
      clear hb
      have hc' : (30000 : Int) < (C.length : Int) := by omega
      have d2 : decide ((30000 : Int) < (C.length : Int)) = true := decide_eq_true hc'
      go_enter Try.func37, Try.ntmps37
      go_wp2
      go_ret
      exact ⟨ret_int HV.out.symm, HB.out⟩
    · have hsc : ¬ (60 < S.length ∨ 30000 < C.length) := by omega
      have hc' : ¬ (30000 : Int) < (C.length : Int) := by omega
      have d2 : decide ((30000 : Int) < (C.length : Int)) = false := decide_eq_false hc'
      have hn : ¬ (0 ≤ n ∧ n ≤ 400) := by
        rcases hb with h | h
        · exact absurd h hsc
        · exact h
      have HV := hid (chkL_cols (L := ⟨n, S, C⟩) hsc hn)
      have HI : Hid (inB n 0 400 = false) := hid (decide_eq_false hn)
      clear hb hsc hn
      go_enter Try.func37, Try.ntmps37
      go_wp2_with (go_at_call 53; (with_reducible refine (in_any n _ _ _).mono ?_); rw [HI.out]; rintro e w' ⟨rfl, rfl⟩)
      go_ret
      exact ⟨ret_int HV.out.symm, HB.out⟩

set_option maxRecDepth 100000 in
set_option maxHeartbeats 16000000 in
theorem rcheckL_good (L : Ld) (sa : Option Addr) (sc : Nat) (ca : Option Addr) (cc : Nat) (w : World) (hm : LdM w L sa sc ca cc)
    (hsc : ¬ (60 < L.starts.length ∨ 30000 < L.cells.length)) (hn : 0 ≤ L.cols ∧ L.cols ≤ 400) :
    Calls Try.prog 37 #[vL L sa sc ca cc] w (RetB (.int .i64 (chkL L)) w) := by
  have HM := hid hm; clear hm
  have HB := hid (bnew w (.cells #[.int .i64 L.cols, .slice sa L.starts.length sc, .slice ca L.cells.length cc] 44))
  have HX := hid (heapn w (.cells #[.int .i64 L.cols, .slice sa L.starts.length sc, .slice ca L.cells.length cc] 44) _ rfl)
  have HVS := hid (chkL_starts hsc hn)
  have HVC := hid (chkL_cells hsc hn)
  have HOK := hid fun i hi (h : cellOk L i (L.cell i) = false) => cellsOk_no (L := L) (i := i) hi h
  have HI : Hid (inB L.cols 0 400 = true) := hid (decide_eq_true hn)
  have hs' : ¬ (60 : Int) < (L.starts.length : Int) := by omega
  have hc' : ¬ (30000 : Int) < (L.cells.length : Int) := by omega
  have d1 : decide ((60 : Int) < (L.starts.length : Int)) = false := decide_eq_false hs'
  have d2 : decide ((30000 : Int) < (L.cells.length : Int)) = false := decide_eq_false hc'
  have hls : L.starts.length ≤ 60 := by omega
  have hlc : L.cells.length ≤ 30000 := by omega
  obtain ⟨hn0, hn1⟩ := hn
  clear hsc
  go_enter Try.func37, Try.ntmps37
  go_wp2_with fail
  generalize w.alloc (.cells #[.int .i64 L.cols, .slice sa L.starts.length sc, .slice ca L.cells.length cc] 44) = w1 at *
  obtain ⟨k0, k1, k2, _, _, _⟩ := box3 HX.out
  obtain ⟨g1, hg1⟩ : ∃ g, g = w.heap.size := ⟨_, rfl⟩
  rw [← hg1] at k0 k1 k2 HX
  rw [← hg1]
  clear hg1
  go_wp2_with (go_at_call 53; (with_reducible refine (in_any L.cols _ _ _).mono ?_); rw [HI.out]; rintro e w' ⟨rfl, rfl⟩)
  clear k0 k1 k2 d1 d2
  go_loopg [4] L.starts.length (fun gh s4 wr => ∃ k : Nat, k ≤ L.starts.length ∧ gh = L.starts.length - k ∧ s4 = .int .i64 k ∧ Hid ((∀ i, i < k → badS L.cols L.cells.length (L.st i) = false) ∧ Below w1.heap.size w1 wr))
  case atStart => exact ⟨0, Nat.zero_le _, rfl, rfl, hid ⟨fun i hi => absurd hi (Nat.not_lt_zero _), Below.refl _ _⟩⟩
  case round =>
    obtain ⟨k, hk, rfl, rfl, HK⟩ := hrel
    obtain ⟨k0, k1, k2, _, _, _⟩ := box3 (keepBox HK.out.2 HX.out)
    by_cases hlt : k < L.starts.length
    · have n1 : (k : Int) < (L.starts.length : Int) := by omega
      obtain ⟨b, off, hsa, hltb, h1⟩ := (HM.out.rs.below (HB.out.step HK.out.2)).at hlt
      have hst : L.starts.getD k (-1) = L.st k := rfl
      rw [hst] at h1
      have HBI := hid (badS_in L.cols (L.st k) L.cells.length)
      have HAB := hid (any_bad hlt)
      have HNX : Hid (badS L.cols L.cells.length (L.st k) = false → ∀ i, i < k + 1 → badS L.cols L.cells.length (L.st i) = false) := hid fun h i hi => by
        by_cases e : i = k
        · rw [e]; exact h
        · exact HK.out.1 i (by omega)
      clear hst
      subst hsa
      generalize L.st k = s at *
      have hIN := fun w => in_any s 0 ((L.cells.length : Int) - L.cols) w
      cases hi : inB s 0 ((L.cells.length : Int) - L.cols) with
      | true =>
        rw [hi] at hIN
        have HIN := hid hIN
        have HG := hid (HNX.out (by rw [HBI.out, hi]; simp))
        clear hIN hi
        go_upto_region 9 with fail
        go_quiet ((go_at_call 53; with_reducible exact Calls.quiet_of_same (retS (HIN.out _))))
        by_cases h2 : s = -1
        · have d3 : (s != -1) = false := by simp [h2]
          clear h2
          go_wp2
          go_roundg (L.starts.length - (k + 1))
          case measure => omega
          case rel => exact ⟨k + 1, by omega, rfl, by go_num, hid ⟨HG.out, bdrewN HK.out.2 _⟩⟩
        · have d3 : (s != -1) = true := by simp [h2]
          clear h2
          go_wp2
          go_roundg (L.starts.length - (k + 1))
          case measure => omega
          case rel => exact ⟨k + 1, by omega, rfl, by go_num, hid ⟨HG.out, bdrewN HK.out.2 _⟩⟩
      | false =>
        rw [hi] at hIN
        have HIN := hid hIN
        have HII := hid hi
        clear hIN hi
        by_cases h2 : s = -1
        · have d3 : (s != -1) = false := by simp [h2]
          have HG := hid (HNX.out (by rw [HBI.out, d3]; simp))
          clear h2
          go_upto_region 9 with fail
          go_quiet ((go_at_call 53; with_reducible exact Calls.quiet_of_same (retS (HIN.out _))))
          go_wp2
          go_roundg (L.starts.length - (k + 1))
          case measure => omega
          case rel => exact ⟨k + 1, by omega, rfl, by go_num, hid ⟨HG.out, bdrewN HK.out.2 _⟩⟩
        · have d3 : (s != -1) = true := by simp [h2]
          have HF := hid (HAB.out (by rw [HBI.out, d3, HII.out]; rfl))
          clear h2
          go_upto_region 9 with fail
          go_quiet ((go_at_call 53; with_reducible exact Calls.quiet_of_same (retS (HIN.out _))))
          go_wp2
          go_ret
          exact ⟨ret_int (HVS.out HF.out).symm, HB.out.step (bdrewN HK.out.2 _)⟩
    · have hkl : k = L.starts.length := by omega
      subst hkl
      have HV := hid (HVC.out (any_good HK.out.1))
      have HST := hid fun i (hi : i < L.starts.length) => badS_no (HK.out.1 i hi)
      obtain ⟨wb, rfl⟩ : ∃ wb : World, wb = wr := ⟨_, rfl⟩
      have HB2 := hid (HB.out.step HK.out.2)
      have HX2 := hid (keepBox HK.out.2 HX.out)
      clear hlt hk HVS HVC
      go_wp2
      clear k0 k1 k2
      go_loopg [6] L.cells.length (fun gh s6 wr => ∃ k : Nat, k ≤ L.cells.length ∧ gh = L.cells.length - k ∧ s6 = .int .i64 k ∧ Hid ((∀ i, i < k → cellOk L i (L.cell i) = true) ∧ Below wb.heap.size wb wr))
      case atStart => exact ⟨0, Nat.zero_le _, rfl, rfl, hid ⟨fun i hi => absurd hi (Nat.not_lt_zero _), Below.refl _ _⟩⟩
      case round =>
        obtain ⟨k, hk, rfl, rfl, HK⟩ := hrel
        obtain ⟨k0, k1, k2, _, _, _⟩ := box3 (keepBox HK.out.2 HX2.out)
        by_cases hlt : k < L.cells.length
        · have n1 : (k : Int) < (L.cells.length : Int) := by omega
          obtain ⟨b, off, hca, hltb, h1, h2⟩ := (HM.out.rc.below (HB2.out.step HK.out.2)).at hlt
          obtain ⟨x, hx⟩ : ∃ x, x = L.cell k := ⟨_, rfl⟩
          have hx' : L.cells.getD k (-1, 0) = L.cell k := rfl
          rw [hx', ← hx] at h1 h2
          obtain ⟨x, y⟩ := x
          simp only at h1 h2
          have HXX := hid hx
          clear hx hx'
          subst hca
          go_upto_region 16 with fail
          have hb4 := bnew wr (.cells #[.int .i64 x, .int .i64 y] 99)
          have HX4 := hid (heapn wr (.cells #[.int .i64 x, .int .i64 y] 99) _ rfl)
          have HB4 := hid (HK.out.2.step hb4)
          have k0 := cell_later hb4 k0
          have k1 := cell_later hb4 k1
          have k2 := cell_later hb4 k2
          clear h1 h2 hb4
          generalize wr.alloc (.cells #[.int .i64 x, .int .i64 y] 99) = w4 at *
          obtain ⟨g4, hg4⟩ : ∃ g, g = wr.heap.size := ⟨_, rfl⟩
          rw [← hg4] at HX4
          rw [← hg4]
          clear hg4
          have q99 := fun w => eql99 x y (-1) 0 w
          have G99 := g99
          obtain ⟨x0, y0, _, _⟩ := box2 HX4.out
          by_cases h0 : (x, y) = (-1, 0)
          · have hd : decide ((x, y) = ((-1 : Int), (0 : Int))) = true := decide_eq_true h0
            rw [hd] at q99
            have HC := hid (show cellOk L k (L.cell k) = true by rw [← HXX.out, h0]; rfl)
            clear hd h0
            go_wp2
            go_roundg (L.cells.length - (k + 1))
            case measure => omega
            case rel =>
              refine ⟨k + 1, by omega, rfl, by go_num, hid ⟨fun i hi => ?_, HB4.out⟩⟩
              by_cases e : i = k
              · rw [e]; exact HC.out
              · exact HK.out.1 i (by omega)
          · have hd : decide ((x, y) = ((-1 : Int), (0 : Int))) = false := decide_eq_false h0
            rw [hd] at q99
            have HNO := hid fun h => HOK.out k hlt (by rw [← HXX.out]; exact cellOk_not (L := L) (i := k) h0 h)
            have HYES := hid fun h1 h2 h3 h4 h5 h6 => cellOk_yes (L := L) (i := k) (x := x) (y := y) h1 h2 h3 h4 h5 h6
            clear hd h0
            have hIN := fun w => in_any x 0 ((L.starts.length : Int) - 1) w
            have hTH := fun w => rthere_any y w
            rw [in_rows] at hIN
            cases c1 : (decide (0 ≤ x) && decide (x < (L.starts.length : Int))) with
            | false =>
              rw [c1] at hIN
              have HIN := hid hIN
              have HTH := hid hTH
              have HF := hid (HNO.out (by
                rw [Bool.and_eq_false_iff] at c1
                rintro ⟨q1, q2, _⟩
                rcases c1 with c1 | c1
                · exact absurd q1 (of_decide_eq_false c1)
                · exact absurd q2 (of_decide_eq_false c1)))
              clear hIN hTH c1
              go_wp2_with (first
                | (go_at_call 53; (with_reducible refine (HIN.out _).mono ?_); rintro e w' ⟨rfl, rfl⟩)
                | (go_at_call 76; (with_reducible refine (HTH.out _).mono ?_); rintro e w' ⟨rfl, rfl⟩))
              go_ret
              exact ⟨ret_int (by rw [HV.out, HF.out]; rfl), HB2.out.step HB4.out⟩
            | true =>
              rw [c1] at hIN
              have HIN := hid hIN
              clear hIN
              simp only [Bool.and_eq_true, decide_eq_true_eq] at c1
              obtain ⟨c11, c12⟩ := c1
              cases c3 : thereB y with
              | false =>
                rw [c3] at hTH
                have HTH := hid hTH
                have HF := hid (HNO.out (by rw [c3]; simp))
                clear c3 hTH
                go_wp2_with (first
                  | (go_at_call 53; (with_reducible refine (HIN.out _).mono ?_); rintro e w' ⟨rfl, rfl⟩)
                  | (go_at_call 76; (with_reducible refine (HTH.out _).mono ?_); rintro e w' ⟨rfl, rfl⟩))
                go_ret
                exact ⟨ret_int (by rw [HV.out, HF.out]; rfl), HB2.out.step HB4.out⟩
              | true =>
                rw [c3] at hTH
                have HTH := hid hTH
                have C3 := hid c3
                clear c3 hTH
                obtain ⟨r, rfl⟩ : ∃ r : Nat, x = (r : Int) := ⟨x.toNat, by omega⟩
                have hr : r < L.starts.length := by omega
                obtain ⟨bs, os, hsa, hlts, h5⟩ := (HM.out.rs.below (HB2.out.step HB4.out)).at hr
                have hst : L.starts.getD r (-1) = L.st r := rfl
                rw [hst] at h5
                have hstr := HST.out r hr
                have HRT := hid (Int.toNat_natCast r)
                clear hst
                subst hsa
                generalize hs : L.st r = s at *
                have HS := hid hs
                clear hs
                have hsn : Hid (¬ (0 ≤ s ∧ s ≤ (k : Int) ∧ (k : Int) < s + L.cols) → cellsOk L L.cells.length = false) := hid fun h => HNO.out (by rw [Int.toNat_natCast, HS.out]; rintro ⟨_, _, _, h4⟩; exact h h4)
                clear HNO
                by_cases e1 : s = -1
                · have HF := hid (hsn.out (by omega))
                  have e2 : (s == -1) = true := by simp [e1]
                  clear e1 hstr
                  go_wp2_with (first
                    | (go_at_call 53; (with_reducible refine (HIN.out _).mono ?_); rintro e w' ⟨rfl, rfl⟩)
                    | (go_at_call 76; (with_reducible refine (HTH.out _).mono ?_); rintro e w' ⟨rfl, rfl⟩))
                  go_ret
                  exact ⟨ret_int (by rw [HV.out, HF.out]; rfl), HB2.out.step HB4.out⟩
                · have e2 : (s == -1) = false := by simp [e1]
                  have hs0 : 0 ≤ s := by omega
                  have hs1 : s ≤ 30000 := by omega
                  clear e1 hstr
                  by_cases e3 : (k : Int) < s
                  · have HF := hid (hsn.out (by omega))
                    have e4 : decide ((k : Int) < s) = true := decide_eq_true e3
                    go_wp2_with (first
                      | (go_at_call 53; (with_reducible refine (HIN.out _).mono ?_); rintro e w' ⟨rfl, rfl⟩)
                      | (go_at_call 76; (with_reducible refine (HTH.out _).mono ?_); rintro e w' ⟨rfl, rfl⟩))
                    go_ret
                    exact ⟨ret_int (by rw [HV.out, HF.out]; rfl), HB2.out.step HB4.out⟩
                  · have e4 : decide ((k : Int) < s) = false := decide_eq_false e3
                    by_cases e5 : L.cols ≤ (k : Int) - s
                    · have HF := hid (hsn.out (by omega))
                      have e6 : decide (L.cols ≤ (k : Int) - s) = true := decide_eq_true e5
                      go_wp2_with (first
                        | (go_at_call 53; (with_reducible refine (HIN.out _).mono ?_); rintro e w' ⟨rfl, rfl⟩)
                        | (go_at_call 76; (with_reducible refine (HTH.out _).mono ?_); rintro e w' ⟨rfl, rfl⟩))
                      go_ret
                      exact ⟨ret_int (by rw [HV.out, HF.out]; rfl), HB2.out.step HB4.out⟩
                    · have e6 : decide (L.cols ≤ (k : Int) - s) = false := decide_eq_false e5
                      have HC := hid (show cellOk L k (L.cell k) = true by
                        rw [← HXX.out]
                        exact HYES.out (by omega) (by omega) C3.out (by rw [HRT.out, HS.out]; omega) (by rw [HRT.out, HS.out]; omega) (by rw [HRT.out, HS.out]; omega))
                      clear HYES hsn
                      go_wp2_with (first
                        | (go_at_call 53; (with_reducible refine (HIN.out _).mono ?_); rintro e w' ⟨rfl, rfl⟩)
                        | (go_at_call 76; (with_reducible refine (HTH.out _).mono ?_); rintro e w' ⟨rfl, rfl⟩))
                      go_roundg (L.cells.length - (k + 1))
                      case measure => omega
                      case rel =>
                        refine ⟨k + 1, by omega, rfl, by go_num, hid ⟨fun i hi => ?_, HB4.out⟩⟩
                        by_cases e : i = k
                        · rw [e]; exact HC.out
                        · exact HK.out.1 i (by omega)
        · have hkl : k = L.cells.length := by omega
          subst hkl
          go_wp2
          go_ret
          exact ⟨ret_int (by rw [HV.out, cellsOk_yes HK.out.1]; rfl), HB2.out.step HK.out.2⟩
theorem rcheckL_any (L : Ld) (hf : Fit L) (sa : Option Addr) (sc : Nat) (ca : Option Addr) (cc : Nat) (w : World) (hm : LdM w L sa sc ca cc) :
    Calls Try.prog 37 #[vL L sa sc ca cc] w (RetB (.int .i64 (chkL L)) w) := by
  by_cases h1 : 60 < L.starts.length ∨ 30000 < L.cells.length
  · exact rcheckL_bad L hf sa sc ca cc w (.inl h1)
  · by_cases h2 : 0 ≤ L.cols ∧ L.cols ≤ 400
    · exact rcheckL_good L sa sc ca cc w hm h1 h2
    · exact rcheckL_bad L hf sa sc ca cc w (.inr h2)
end Go.Proofs.Ytliajnflmddnoaa
