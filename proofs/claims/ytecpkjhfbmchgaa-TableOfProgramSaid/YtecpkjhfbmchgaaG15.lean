/- The contract of CheckLaid of package table. -/
import Derived.Test.YtecpkjhfbmchgaaG14
namespace Go.Proofs.Ytecpkjhfbmchgaa
open Go.RowKit

theorem chkL_lim {L : Ld} (h : 60 < L.starts.length ∨ 30000 < L.cells.length) : chkL L = 3 := if_pos h
theorem chkL_cols {L : Ld} (h : ¬ (60 < L.starts.length ∨ 30000 < L.cells.length)) (h2 : ¬ (0 ≤ L.cols ∧ L.cols ≤ 400)) : chkL L = 1 := by
  unfold chkL; rw [if_neg h, if_pos h2]
theorem chkL_starts {L : Ld} (h : ¬ (60 < L.starts.length ∨ 30000 < L.cells.length)) (h2 : 0 ≤ L.cols ∧ L.cols ≤ 400) (h3 : L.starts.any (badS L.cols L.cells.length) = true) : chkL L = 1 := by
  unfold chkL; rw [if_neg h, if_neg (fun h => h h2), if_pos h3]
theorem chkL_cells {L : Ld} (h : ¬ (60 < L.starts.length ∨ 30000 < L.cells.length)) (h2 : 0 ≤ L.cols ∧ L.cols ≤ 400) (h3 : L.starts.any (badS L.cols L.cells.length) = false) : chkL L = if cellsOk L L.cells.length = true then 0 else 1 := by
  unfold chkL; rw [if_neg h, if_neg (fun h => h h2), if_neg (by rw [h3]; simp)]

set_option maxRecDepth 100000 in
set_option maxHeartbeats 4000000 in
theorem checkL_bad (L : Ld) (hf : Fit L) (sa : Option Addr) (sc : Nat) (ca : Option Addr) (cc : Nat) (w : World) (hm : LdM w L sa sc ca cc)
    (hb : (60 < L.starts.length ∨ 30000 < L.cells.length) ∨ ¬ (0 ≤ L.cols ∧ L.cols ≤ 400) ∨ L.starts.any (badS L.cols L.cells.length) = true) :
    Calls Try.prog 28 #[vL L sa sc ca cc] w (RetB (.int .i64 (chkL L)) w) := by
  have HM := hid hm; clear hm
  have h1 := hf.s
  have h2 := hf.c
  clear hf
  obtain ⟨n, S, C⟩ := L
  simp only at *
  have hbn := bnew w (.cells #[.int .i64 n, .slice sa S.length sc, .slice ca C.length cc] 38)
  have HB := hid hbn
  obtain ⟨k0, k1, k2, _, _, _⟩ := box3 (heapn w (.cells #[.int .i64 n, .slice sa S.length sc, .slice ca C.length cc] 38) _ rfl)
  have HI := hid fun hn => some71 n C.length w.heap.size _ ca cc S sa sc (w.alloc (.cells #[.int .i64 n, .slice sa S.length sc, .slice ca C.length cc] 38)) hn (by omega) (HM.out.rs.below hbn) (by show S.length ≤ _; omega) k0 k1 k2
  clear k0 k1 k2 hbn
  by_cases hs : 60 < S.length
  · have HV := hid (chkL_lim (L := ⟨n, S, C⟩) (.inl hs))
    clear hb
    have hs' : (60 : Int) < (S.length : Int) := by omega
    go_enter Try.func28, Try.ntmps28
    go_wp2
    go_ret
    exact ⟨ret_int HV.out.symm, HB.out⟩
  · by_cases hc : 30000 < C.length
    · have HV := hid (chkL_lim (L := ⟨n, S, C⟩) (.inr hc))
      clear hb
      have hs' : ¬ (60 : Int) < (S.length : Int) := by omega
      have hc' : (30000 : Int) < (C.length : Int) := by omega
      go_enter Try.func28, Try.ntmps28
      go_wp2
      go_ret
      exact ⟨ret_int HV.out.symm, HB.out⟩
    · have hsc : ¬ (60 < S.length ∨ 30000 < C.length) := by omega
      have hs' : ¬ (60 : Int) < (S.length : Int) := by omega
      have hc' : ¬ (30000 : Int) < (C.length : Int) := by omega
      by_cases hn0 : n < 0
      · have HV := hid (chkL_cols (L := ⟨n, S, C⟩) hsc (by show ¬ (0 ≤ n ∧ n ≤ 400); omega))
        clear hb hsc
        go_enter Try.func28, Try.ntmps28
        go_wp2
        go_ret
        exact ⟨ret_int HV.out.symm, HB.out⟩
      · by_cases hn1 : 400 < n
        · have HV := hid (chkL_cols (L := ⟨n, S, C⟩) hsc (by show ¬ (0 ≤ n ∧ n ≤ 400); omega))
          clear hb hsc
          go_enter Try.func28, Try.ntmps28
          go_wp2
          go_ret
          exact ⟨ret_int HV.out.symm, HB.out⟩
        · have hn : 0 ≤ n ∧ n ≤ 400 := by omega
          have hany : S.any (badS n C.length) = true := by
            rcases hb with h | h | h
            · exact absurd h hsc
            · exact absurd hn h
            · exact h
          have HV := hid (chkL_starts (L := ⟨n, S, C⟩) hsc hn hany)
          have HA := hid hany
          have HII := hid (HI.out hn)
          rw [hany] at HII
          clear hb hsc hany HI hn
          go_enter Try.func28, Try.ntmps28
          go_wp2_with (go_at_call 29; refine HII.out.mono ?_; rintro e w' ⟨rfl, rfl⟩)
          go_ret
          exact ⟨ret_int HV.out.symm, HB.out⟩

theorem cellOk_not {L : Ld} {i : Nat} {x y : Int} (h0 : (x, y) ≠ (-1, 0)) (h : ¬ (0 ≤ x ∧ x < L.starts.length ∧ thereB y = true ∧ 0 ≤ L.st x.toNat ∧ L.st x.toNat ≤ i ∧ (i : Int) < L.st x.toNat + L.cols)) : cellOk L i (x, y) = false := by
  rw [Bool.eq_false_iff]
  intro hc
  rcases cellOk_iff.1 hc with e | ⟨r, h1, h2, h3, h4, h5, h6⟩
  · exact h0 e
  · have e : x.toNat = r := by simp only at h1; omega
    rw [e] at h
    simp only at h1 h3
    exact h ⟨by omega, by omega, h3, h4, h5, h6⟩
theorem cellOk_yes {L : Ld} {i : Nat} {x y : Int} (h1 : 0 ≤ x) (h2 : x < L.starts.length) (h3 : thereB y = true) (h4 : 0 ≤ L.st x.toNat) (h5 : L.st x.toNat ≤ i) (h6 : (i : Int) < L.st x.toNat + L.cols) : cellOk L i (x, y) = true :=
  cellOk_iff.2 (.inr ⟨x.toNat, by simp only; omega, by omega, h3, h4, h5, h6⟩)

set_option maxRecDepth 100000 in
set_option maxHeartbeats 16000000 in
theorem checkL_good (L : Ld) (_hf : Fit L) (sa : Option Addr) (sc : Nat) (ca : Option Addr) (cc : Nat) (w : World) (hm : LdM w L sa sc ca cc)
    (hsc : ¬ (60 < L.starts.length ∨ 30000 < L.cells.length)) (hn : 0 ≤ L.cols ∧ L.cols ≤ 400) (hany : L.starts.any (badS L.cols L.cells.length) = false) :
    Calls Try.prog 28 #[vL L sa sc ca cc] w (RetB (.int .i64 (chkL L)) w) := by
  have HM := hid hm; clear hm
  have HV := hid (chkL_cells hsc hn hany)
  have HL := hid (rfl : L = L)
  have hbn := bnew w (.cells #[.int .i64 L.cols, .slice sa L.starts.length sc, .slice ca L.cells.length cc] 38)
  have HB := hid hbn
  have HX := hid (heapn w (.cells #[.int .i64 L.cols, .slice sa L.starts.length sc, .slice ca L.cells.length cc] 38) _ rfl)
  obtain ⟨k0, k1, k2, _, _, _⟩ := box3 HX.out
  have HII := hid (some71 L.cols L.cells.length w.heap.size _ ca cc L.starts sa sc (w.alloc (.cells #[.int .i64 L.cols, .slice sa L.starts.length sc, .slice ca L.cells.length cc] 38)) hn (by omega) (HM.out.rs.below hbn) (by omega) k0 k1 k2)
  rw [hany] at HII
  have HOK := fun i hi (h : cellOk L i (L.cell i) = false) => cellsOk_no (L := L) (i := i) hi h
  have HST := hid fun i (hi : i < L.starts.length) => badS_no (n := L.cols) (k := L.cells.length) (s := L.st i) (by
    have := List.any_eq_false.1 hany L.starts[i] (List.getElem_mem hi)
    unfold Ld.st
    rw [getD_in hi]
    simpa using this)
  have HOK2 := hid HOK
  have hs' : ¬ (60 : Int) < (L.starts.length : Int) := by omega
  have hc' : ¬ (30000 : Int) < (L.cells.length : Int) := by omega
  have hls : L.starts.length ≤ 60 := by omega
  have hlc : L.cells.length ≤ 30000 := by omega
  obtain ⟨hn0, hn1⟩ := hn
  clear k0 k1 k2 hbn hany hsc HOK
  have hlt0 := lt_alloc w (.cells #[.int .i64 L.cols, .slice sa L.starts.length sc, .slice ca L.cells.length cc] 38)
  go_enter Try.func28, Try.ntmps28
  go_wp2_with fail
  generalize w.alloc (.cells #[.int .i64 L.cols, .slice sa L.starts.length sc, .slice ca L.cells.length cc] 38) = w1 at *
  obtain ⟨k0, k1, k2, _, _, _⟩ := box3 HX.out
  obtain ⟨g1, hg1⟩ : ∃ g, g = w.heap.size := ⟨_, rfl⟩
  rw [← hg1] at k0 k1 k2 HX HII hlt0
  rw [← hg1]
  have HG1 := hid hg1
  clear hg1
  go_wp2_with (go_at_call 29; refine HII.out.mono ?_; rintro e w' ⟨rfl, rfl⟩)
  clear k0 k1 k2 HII
  go_loopg [31] L.cells.length (fun gh s31 wr => ∃ k : Nat, k ≤ L.cells.length ∧ gh = L.cells.length - k ∧ s31 = .int .i64 k ∧ Hid ((∀ i, i < k → cellOk L i (L.cell i) = true) ∧ Below w1.heap.size w1 wr))
  case atStart => exact ⟨0, Nat.zero_le _, rfl, rfl, hid ⟨fun i hi => absurd hi (Nat.not_lt_zero _), Below.refl _ _⟩⟩
  case round =>
    obtain ⟨k, hk, rfl, rfl, HK⟩ := hrel
    obtain ⟨k0, k1, k2, _, _, _⟩ := box3 (keepBox HK.out.2 HX.out)
    by_cases hlt : k < L.cells.length
    · have n1 : (k : Int) < (L.cells.length : Int) := by omega
      obtain ⟨b, off, hca, hltb, h1, h2⟩ := (HM.out.rc.below (HB.out.step HK.out.2)).at hlt
      obtain ⟨x, hx⟩ : ∃ x, x = L.cell k := ⟨_, rfl⟩
      have hx' : L.cells.getD k (-1, 0) = L.cell k := rfl
      rw [hx', ← hx] at h1 h2
      obtain ⟨x, y⟩ := x
      simp only at h1 h2
      have HXX := hid hx
      clear hx hx'
      subst hca
      go_upto_region 10 with fail
      have hb4 := bnew wr (.cells #[.int .i64 x, .int .i64 y] 65)
      have HX4 := hid (heapn wr (.cells #[.int .i64 x, .int .i64 y] 65) _ rfl)
      have HB4 := hid hb4
      have k0 := cell_later hb4 k0
      have k1 := cell_later hb4 k1
      have k2 := cell_later hb4 k2
      clear h1 h2 hb4
      generalize wr.alloc (.cells #[.int .i64 x, .int .i64 y] 65) = w4 at *
      obtain ⟨g4, hg4⟩ : ∃ g, g = wr.heap.size := ⟨_, rfl⟩
      rw [← hg4] at HX4
      rw [← hg4]
      clear hg4
      have K0 := hid k0
      have K1 := hid k1
      have K2 := hid k2
      have q99 := fun w => eql99 x y (-1) 0 w
      have G99 := g99
      have hb := bdrew w4
      clear k0 k1 k2
      by_cases h0 : (x, y) = (-1, 0)
      · have hd : decide ((x, y) = ((-1 : Int), (0 : Int))) = true := decide_eq_true h0
        rw [hd] at q99
        have HC := hid (show cellOk L k (L.cell k) = true by rw [← HXX.out, h0]; rfl)
        clear hd h0
        go_region_held3 (fun w' => w'.cell? ⟨g4, 0, none⟩ = some (.int .i64 x) ∧ w'.cell? ⟨g4, 1, none⟩ = some (.int .i64 y)) (first | exact ⟨(box2 HX4.out).1, (box2 HX4.out).2.1⟩ | exact ⟨cell_later hb (box2 HX4.out).1, cell_later hb (box2 HX4.out).2.1⟩)
          ((go_at_call 34; refine (none_any _).mono ?_; rintro e w9 ⟨rfl, hbb⟩; have hb := hb.step hbb; clear hbb))
        have HB9 := hid hb
        clear hb q99 G99
        go_wp2
        go_roundg (L.cells.length - (k + 1))
        case measure => omega
        case rel =>
          refine ⟨k + 1, by omega, rfl, by go_num, hid ⟨fun i hi => ?_, HK.out.2.step (HB4.out.step HB9.out)⟩⟩
          by_cases e : i = k
          · rw [e]; exact HC.out
          · exact HK.out.1 i (by omega)
      · have hd : decide ((x, y) = ((-1 : Int), (0 : Int))) = false := decide_eq_false h0
        rw [hd] at q99
        have HNO := hid fun h => HOK2.out k hlt (by rw [← HXX.out]; exact cellOk_not (L := L) (i := k) h0 h)
        have HYES := hid fun h1 h2 h3 h4 h5 h6 => cellOk_yes (L := L) (i := k) (x := x) (y := y) h1 h2 h3 h4 h5 h6
        clear hd h0
        go_region_held3 (fun w' => w'.cell? ⟨g4, 0, none⟩ = some (.int .i64 x) ∧ w'.cell? ⟨g4, 1, none⟩ = some (.int .i64 y)) (first | exact ⟨(box2 HX4.out).1, (box2 HX4.out).2.1⟩ | exact ⟨cell_later hb (box2 HX4.out).1, cell_later hb (box2 HX4.out).2.1⟩)
          ((go_at_call 34; refine (none_any _).mono ?_; rintro e w9 ⟨rfl, hbb⟩; have hb := hb.step hbb; clear hbb))
        have HB9 := hid (HK.out.2.step (HB4.out.step hb))
        have x0 := cell_later hb (box2 HX4.out).1
        have y0 := cell_later hb (box2 HX4.out).2.1
        have k0 := cell_later hb K0.out
        have k1 := cell_later hb K1.out
        clear hb q99 G99
        by_cases c1 : x < 0
        · have HF := hid (HNO.out (by omega))
          go_wp2
          go_ret
          exact ⟨ret_int (by rw [HV.out, HF.out]; rfl), HB.out.step HB9.out⟩
        · by_cases c2 : (L.starts.length : Int) ≤ x
          · have HF := hid (HNO.out (by omega))
            go_wp2
            go_ret
            exact ⟨ret_int (by rw [HV.out, HF.out]; rfl), HB.out.step HB9.out⟩
          · cases c3 : thereB y with
            | false =>
              have HF := hid (HNO.out (by rw [c3]; simp))
              have C3 := hid c3
              clear c3
              go_wp2_with (go_at_call 51; refine (k72 y _).mono ?_; rw [C3.out]; rintro e w' ⟨rfl, rfl⟩)
              go_ret
              exact ⟨ret_int (by rw [HV.out, HF.out]; rfl), HB.out.step HB9.out⟩
            | true =>
              have C3 := hid c3
              clear c3
              obtain ⟨r, rfl⟩ : ∃ r : Nat, x = (r : Int) := ⟨x.toNat, by omega⟩
              have hr : r < L.starts.length := by omega
              obtain ⟨bs, os, hsa, hlts, h5⟩ := (HM.out.rs.below (HB.out.step HB9.out)).at hr
              have hst : L.starts.getD r (-1) = L.st r := rfl
              rw [hst] at h5
              have hstr := HST.out r hr
              have HRT := hid (Int.toNat_natCast r)
              clear hst
              subst hsa
              generalize hs : L.st r = s at *
              have HS := hid hs
              clear hs
              have hsn : Hid (¬ (0 ≤ s ∧ s ≤ (k : Int) ∧ (k : Int) < s + L.cols) → cellsOk L L.cells.length = false) := hid fun h => HNO.out (by rw [Int.toNat_natCast, HS.out]; rintro ⟨_, _, _, h4⟩; exact h h4)
              clear HNO
              have go1 : Hid (Below w.heap.size w w9) := hid (HB.out.step HB9.out)
              by_cases d1 : s < 0
              · have HF := hid (hsn.out (by omega))
                go_wp2_with (go_at_call 51; refine (k72 y _).mono ?_; rw [C3.out]; rintro e w' ⟨rfl, rfl⟩)
                go_ret
                exact ⟨ret_int (by rw [HV.out, HF.out]; rfl), go1.out⟩
              · have hsl : s ≤ 30000 := by omega
                by_cases d2 : (k : Int) < s
                · have HF := hid (hsn.out (by omega))
                  go_wp2_with (go_at_call 51; refine (k72 y _).mono ?_; rw [C3.out]; rintro e w' ⟨rfl, rfl⟩)
                  go_ret
                  exact ⟨ret_int (by rw [HV.out, HF.out]; rfl), go1.out⟩
                · by_cases d3 : s + L.cols ≤ (k : Int)
                  · have HF := hid (hsn.out (by omega))
                    go_wp2_with (go_at_call 51; refine (k72 y _).mono ?_; rw [C3.out]; rintro e w' ⟨rfl, rfl⟩)
                    go_ret
                    exact ⟨ret_int (by rw [HV.out, HF.out]; rfl), go1.out⟩
                  · have HC := hid (show cellOk L k (L.cell k) = true by
                      rw [← HXX.out]
                      exact HYES.out (by omega) (by omega) C3.out (by rw [HRT.out, HS.out]; omega) (by rw [HRT.out, HS.out]; omega) (by rw [HRT.out, HS.out]; omega))
                    clear HYES hsn
                    go_wp2_with (go_at_call 51; refine (k72 y _).mono ?_; rw [C3.out]; rintro e w' ⟨rfl, rfl⟩)
                    go_roundg (L.cells.length - (k + 1))
                    case measure => omega
                    case rel =>
                      refine ⟨k + 1, by omega, rfl, by go_num, hid ⟨fun i hi => ?_, HB9.out⟩⟩
                      by_cases e : i = k
                      · rw [e]; exact HC.out
                      · exact HK.out.1 i (by omega)
    · have hkl : k = L.cells.length := by omega
      subst hkl
      go_wp2
      go_ret
      exact ⟨ret_int (by rw [HV.out, cellsOk_yes HK.out.1]; rfl), HB.out.step HK.out.2⟩
theorem checkL_any (L : Ld) (hf : Fit L) (sa : Option Addr) (sc : Nat) (ca : Option Addr) (cc : Nat) (w : World) (hm : LdM w L sa sc ca cc) :
    Calls Try.prog 28 #[vL L sa sc ca cc] w (RetB (.int .i64 (chkL L)) w) := by
  by_cases h1 : 60 < L.starts.length ∨ 30000 < L.cells.length
  · exact checkL_bad L hf sa sc ca cc w hm (.inl h1)
  · by_cases h2 : 0 ≤ L.cols ∧ L.cols ≤ 400
    · cases h3 : L.starts.any (badS L.cols L.cells.length) with
      | true => exact checkL_bad L hf sa sc ca cc w hm (.inr (.inr h3))
      | false => exact checkL_good L hf sa sc ca cc w hm h1 h2 h3
    · exact checkL_bad L hf sa sc ca cc w hm (.inr (.inl h2))
end Go.Proofs.Ytecpkjhfbmchgaa
