/- The contract of the reference's Fold. -/
import Derived.Test.YtliajnflmddnoaaQ15
import Derived.Test.YtliajnflmddnoaaQ3
import Derived.Test.YtliajnflmddnoaaG22
namespace Go.Proofs.Ytliajnflmddnoaa
open Go.RowKit

/-- What the reference's Fold returns. -/
def FoldS (C : List Int) (R : List (List (Int × Int))) (y : Int) (w : World) (e : Ending) (w' : World) : Prop := Below w.heap.size w w' ∧ ∃ ac cc ar cr, e = .returned (.agg #[.slice ac C.length cc, .slice ar R.length cr, .int .i64 y]) ∧ RdI w' ac C ∧ RdG w' ar R
/-- A row's owned cells, of the first k entries. -/
def fdU (l : List Nat) (n : Nat) (row : List Int) (k : Nat) : List (Int × Int) := foldU l n row (fullU row k)
theorem fdU_zero (l : List Nat) (n : Nat) (row : List Int) : fdU l n row 0 = List.replicate n (-1, -1) := rfl
theorem fdU_end (l : List Nat) (n : Nat) (row : List Int) : fdU l n row row.length = foldRow l n row := rfl
theorem fdU_length (l : List Nat) (n : Nat) (row : List Int) (k : Nat) : (fdU l n row k).length = n := foldU_length _ _ _ _
theorem fdU_yes {l : List Nat} {n : Nat} {row : List Int} {k : Nat} (h : nz (row.getD k (-1)) = true) : fdU l n row (k + 1) = (fdU l n row k).set (l.getD k 0) ((k : Int), row.getD k (-1)) := by
  unfold fdU
  rw [fullU_succ, if_pos h, foldU_append]
theorem fdU_no {l : List Nat} {n : Nat} {row : List Int} {k : Nat} (h : nz (row.getD k (-1)) = false) : fdU l n row (k + 1) = fdU l n row k := by
  unfold fdU
  rw [fullU_succ, if_neg (by rw [h]; simp)]
theorem rep_succ (k : Nat) : List.replicate k ((-1 : Int), (-1 : Int)) ++ [(-1, -1)] = List.replicate (k + 1) (-1, -1) := by rw [List.replicate_succ']
set_option maxRecDepth 100000 in
set_option maxHeartbeats 8000000 in
theorem rfold_ok (m : List (List Int)) (a : Option Addr) (cap : Nat) (w : World) (hl : RdM w a m) (hE : chkM m = 0) :
    Calls Try.prog 16 #[.slice a m.length cap] w (FoldS (foldC m) (foldV m) (chkM m) w) := by
  have HL := hid hl; clear hl
  have hm := chkM_ok hE
  have HM := hid hm
  have hv : foldC m = asI (colL m (colsN m)) ∧ foldV m = foldG m := ⟨by unfold foldC; rw [if_pos hE]; rfl, by unfold foldV; rw [if_pos hE]⟩
  rw [hv.1, hv.2, hE]
  have HB0 := hid (bnew w (.cells #[.slice none 0 0, .slice none 0 0, .int .i64 0] 33))
  have HX0 := hid (heapn w (.cells #[.slice none 0 0, .slice none 0 0, .int .i64 0] 33) _ rfl)
  have h60 := hm.rows
  have hcl4 := hm.cols
  have HC := hid (fun (w : World) (h : RdM w a m) => (by have := rcheck_any m a cap w h (by omega) (fun r hr => by obtain ⟨i, hi, rfl⟩ := List.getElem_of_mem hr; rw [hm.len i hi]; have := hm.cols; omega); rw [hE] at this; exact this : Calls Try.prog 45 #[.slice a m.length cap] w (RetB (.int .i64 0) w)))
  obtain ⟨n, hn⟩ : ∃ n, n = manyC (colL m (colsN m)) := ⟨_, rfl⟩
  have hnc : n ≤ colsN m := by rw [hn]; exact many_cols _ _
  have HN' := hid hn
  have hcll : (asI (colL m (colsN m))).length = colsN m := by rw [asI_length, colL_length]
  have HCLL := hid hcll
  clear hE hm hv hcll hn
  go_enter Try.func16, Try.ntmps16
  go_wp2_with fail
  generalize w.alloc (.cells #[.slice none 0 0, .slice none 0 0, .int .i64 0] 33) = w1 at *
  obtain ⟨g2, hg2⟩ : ∃ g, g = w.heap.size := ⟨_, rfl⟩
  rw [← hg2] at HX0
  rw [← hg2]
  have HG := hid hg2
  clear hg2
  go_upto_region 6 with (first
    | (go_at_call 45; (with_reducible refine (HC.out _ (HL.out.below HB0.out)).mono ?_); rintro e w2 ⟨rfl, hb⟩; have HB2 := hid hb; clear hb)
    | (go_at_call 52; (with_reducible refine (rcolours_any m _ cap _ HM.out (HL.out.below (HB0.out.step HB2.out))).mono ?_); rintro e w3 ⟨hb, v, rfl, hown⟩; rw [← HN'.out]; obtain ⟨ac, cc, gcc, rfl, _, _, hrd, -, hnew⟩ := ownI_wr hown; rw [HCLL.out] at hown ⊢; have HAC := hid hrd; have HNA := hid hnew; have HLT := hid (ownI_lt hown); have HB3 := hid (HB2.out.step hb); clear hown hrd hnew hb))
  have hb7 := bnew w3 (.cells #[.slice ac (colsN m) cc, .slice none 0 0] 26)
  have hX7 := heapn w3 (.cells #[.slice ac (colsN m) cc, .slice none 0 0] 26) _ rfl
  generalize w3.alloc (.cells #[.slice ac (colsN m) cc, .slice none 0 0] 26) = w7 at *
  obtain ⟨g7, hg7⟩ : ∃ g, g = w3.heap.size := ⟨_, rfl⟩
  rw [← hg7] at hX7 HLT
  rw [← hg7]
  have HB7 := hid (HB3.out.step hb7)
  have HAC7 := hid (HAC.out.below hb7)
  have HLT7 := hid (lt_of_heap hX7)
  have HG7 := hid (show w1.heap.size ≤ g7 by rw [hg7]; exact HB3.out.size)
  have HX2 := hid (keepBox HB7.out HX0.out)
  have HF0 : Hid (Folding m w7 g7 ac cc 0 w7) := hid ⟨_, hX7, OwnG.nil _ _, But.refl _ _⟩
  clear hg7 hb7 hX7 HB3 HAC
  go_wp2_with fail
  go_loopg [7] m.length (fun gh s7 wr => ∃ i : Nat, i ≤ m.length ∧ gh = m.length - i ∧ s7 = .int .i64 i ∧ Hid (Folding m w7 g7 ac cc i wr))
  case atStart => exact ⟨0, Nat.zero_le _, rfl, rfl, HF0⟩
  case round =>
    obtain ⟨i, hi, rfl, rfl, HK⟩ := hrel
    have HBW : Hid (Below w1.heap.size w1 wr) := by
      obtain ⟨v, _, _, h3⟩ := HK.out
      exact hid (HB7.out.trans (h3.below HG7.out HB7.out.size))
    by_cases hlt : i < m.length
    · obtain ⟨wo, rfl⟩ : ∃ wo : World, wo = wr := ⟨_, rfl⟩
      have ni : (i : Int) < (m.length : Int) := by omega
      obtain ⟨br, orr, har, hlr, ai, ci, hcr, hrr⟩ := (HL.out.below (HB0.out.step HBW.out)).row hlt
      subst har
      have HSUCC := hid (foldP_succ hlt)
      have HROW := hid (HM.out.row hlt)
      have HRR := hid hrr
      obtain ⟨row, hrw⟩ : ∃ row, row = m.getD i [] := ⟨_, rfl⟩
      rw [← hrw] at hcr HRR HROW HSUCC
      have HCR := hid hcr
      clear hrr hrw hcr
      go_wp2_with fail
      go_loopg [8, 9] n (fun gh s8 s9 wr => ∃ k : Nat, k ≤ n ∧ gh = n - k ∧ s9 = .int .i64 k ∧ Hid (OwnP 97 wr wo.heap.size s8 (List.replicate k (-1, -1)) ∧ Below wo.heap.size wo wr))
      case atStart => exact ⟨0, Nat.zero_le _, rfl, rfl, hid ⟨OwnP.nil _ _ _, Below.refl _ _⟩⟩
      case round =>
        obtain ⟨k, hk, rfl, rfl, HX⟩ := hrel
        by_cases hlk : k < n
        · have nk : (k : Int) < (n : Int) := by omega
          have hsz := HX.out.2.size
          go_wp2_with (at_builtin; refine wpList_append_pairs pt95 _ rfl _ _ rfl wo.heap.size _ (List.replicate k (-1, -1)) [(-1, -1)] rfl (HX.out.1.later (bnew _ _)) (some ⟨wr.heap.size, 0, none⟩) 1 rfl (rdp_one _ _ _ _) (by rw [List.length_replicate]; simp; omega) (by simp; omega) ?_; intro v' w6 hown hgrow hnil; have HO := hid hown; have HG3 := hid hgrow; clear hown hgrow hnil)
          go_roundg (n - (k + 1))
          case measure => omega
          case rel =>
            refine ⟨k + 1, by omega, rfl, by go_num, hid ⟨by rw [← rep_succ]; exact HO.out, ?_⟩⟩
            exact (HX.out.2.alloc hsz _).grown HG3.out (by simp; omega) (own_ge HX.out.1)
        · have hkn : k = n := by omega
          obtain ⟨aR, cR, gR, rfl, _, hgR, hrdR, hbpR, hnewR⟩ := ownP_wr HX.out.1
          rw [List.length_replicate]
          rw [hkn] at hbpR hrdR ⊢
          have HGR := hid hgR
          have HBPR := hid hbpR
          have HBX := hid HX.out.2
          have HNR := hid hnewR
          clear hbpR hgR hrdR hnewR hlk hk HX
          obtain ⟨wp, rfl⟩ : ∃ wp : World, wp = wr := ⟨_, rfl⟩
          go_wp2_with fail
          go_loopg [10] row.length (fun gh s10 wr => ∃ j : Nat, j ≤ row.length ∧ gh = row.length - j ∧ s10 = .int .i64 j ∧ Hid ((List.replicate n ((-1 : Int), (-1 : Int)) ≠ [] → BP 97 wr gR (fdU (colL m (colsN m)) n row j)) ∧ But gR wp wr))
          case atStart => exact ⟨0, Nat.zero_le _, rfl, rfl, hid ⟨fun h => (HBPR.out h).2, But.refl _ _⟩⟩
          case round =>
            obtain ⟨j, hj, rfl, rfl, HY⟩ := hrel
            have HBY : Hid (Below wo.heap.size wo wr) := hid (HBX.out.trans (HY.out.2.below HGR.out HBX.out.size))
            have hcr := cell_later HBY.out HCR.out
            by_cases hlj : j < row.length
            · have nj : (j : Int) < (row.length : Int) := by omega
              obtain ⟨bq, oq, hai, hlq, h2⟩ := ((HRR.out.below HBY.out)).at hlj
              have hcc : j < colsN m := by rw [← HROW.out.1]; exact hlj
              have HYES := hid (fun h => fdU_yes (l := colL m (colsN m)) (n := n) (row := row) (k := j) h)
              have HNO := hid (fun h => fdU_no (l := colL m (colsN m)) (n := n) (row := row) (k := j) h)
              subst hai
              generalize row.getD j (-1) = x at *
              by_cases hx : x = -1
              · have d1 : (x != -1) = false := by simp [hx]
                have HN := hid (HNO.out (by unfold nz; exact d1))
                clear hx
                go_wp2
                go_roundg (row.length - (j + 1))
                case measure => omega
                case rel => exact ⟨j + 1, by omega, rfl, by go_num, hid ⟨fun h => by rw [HN.out]; exact HY.out.1 h, HY.out.2⟩⟩
              · have d1 : (x != -1) = true := by simp [hx]
                have HN := hid (HYES.out (by unfold nz; exact d1))
                clear hx
                have hacw : RdI wr ac (asI (colL m (colsN m))) := by
                  obtain ⟨v, _, _, h3⟩ := HK.out
                  exact (HAC7.out.but h3 (fun b off e => Nat.ne_of_lt (HLT.out b off e))).below HBY.out
                obtain ⟨bc, oc, hac, hlc, h3⟩ := hacw j (by rw [HCLL.out]; exact hcc)
                rw [asI_at] at h3
                have hz := col_lt (m := m) hcc
                rw [← HN'.out] at hz
                obtain ⟨z, hze⟩ : ∃ z, z = (colL m (colsN m)).getD j 0 := ⟨_, rfl⟩
                rw [← hze] at h3 hz HN
                have hne : List.replicate n ((-1 : Int), (-1 : Int)) ≠ [] := by
                  intro e
                  have h1 : (List.replicate n ((-1 : Int), (-1 : Int))).length = 0 := by rw [e]; rfl
                  rw [List.length_replicate] at h1
                  omega
                have hbp := HY.out.1 hne
                have hav := (HBPR.out hne).1
                have hzl : z < (fdU (colL m (colsN m)) n row j).length := by rw [fdU_length]; exact hz
                have hat := hbp.at hzl
                have f0 := hbp.frozen (z * 2)
                have f1 := hbp.frozen (z * 2 + 1)
                have HBP := hid hbp
                have HZL := hid hzl
                generalize (fdU (colL m (colsN m)) n row j)[z] = old at hat
                obtain ⟨o1, o2⟩ := old
                obtain ⟨t1, t2⟩ := hat
                simp only at t1 t2
                have n3 : (j : Int) < (colsN m : Int) := by omega
                have n4 : (z : Int) < (n : Int) := by omega
                subst hav
                subst hac
                clear hne hbp hzl hze hacw hlc hlq
                go_upto_region 18 with fail
                go_still_tail 15, (by kernel_rfl)
                change wpList _ _ _ _ _ wr.drew
                have t1d : wr.drew.cell? ⟨gR, z * 2, none⟩ = some (.int .i64 o1) := t1
                have t2d : wr.drew.cell? ⟨gR, z * 2 + 1, none⟩ = some (.int .i64 o2) := t2
                have f1d : wr.drew.frozen? ⟨gR, z * 2, none⟩ = false := f0
                have f2d : wr.drew.frozen? ⟨gR, z * 2 + 1, none⟩ = false := f1
                clear h2 h3
                go_wp2_with fail
                go_roundg (row.length - (j + 1))
                case measure => omega
                case rel =>
                  refine ⟨j + 1, by omega, rfl, by go_num, hid ⟨fun _ => ?_, (HY.out.2.drew.set _ _).set _ _⟩⟩
                  rw [HN.out]
                  exact (HBP.out.below (bdrew _)).set HZL.out j x
            · have hjl : j = row.length := by omega
              subst hjl
              obtain ⟨v, hX7, hG, h3⟩ := HK.out.below HBY.out
              obtain ⟨vs, hvl, hown, hvr⟩ := hG
              have HX7 := hid hX7
              have HH3 := hid h3
              have HOWN := hid hown
              have HVL := hid hvl
              have hvs : vs.length ≤ 1000 := by
                have h1 : (foldP m i).length ≤ i := by unfold foldP; rw [List.length_take]; omega
                omega
              have hrl : (foldRow (colL m (colsN m)) n row).length = n := foldU_length _ _ _ _
              have HRL := hid hrl
              have HRW : Hid (RowP (wr.alloc (.cells #[.slice aR n cR] 95)) aR (foldRow (colL m (colsN m)) n row)) := by
                by_cases hne : List.replicate n ((-1 : Int), (-1 : Int)) = []
                · have h1 : (List.replicate n ((-1 : Int), (-1 : Int))).length = 0 := by rw [hne]; rfl
                  rw [List.length_replicate] at h1
                  exact hid (.inl (List.length_eq_zero_iff.1 (by rw [hrl]; exact h1)))
                · exact hid (.inr ⟨gR, (HBPR.out hne).1, by rw [← fdU_end]; exact (HY.out.1 hne).below (bnew _ _)⟩)
              have HVR2 := hid (fun j hj => by
                obtain ⟨a1, c1, q1, q2⟩ := hvr j hj
                exact (⟨a1, c1, q1, q2.below (bnew wr (.cells #[.slice aR n cR] 95))⟩ : ∃ ai ci, vs[j]? = some (.slice ai (foldP m i)[j].length ci) ∧ RowP (wr.alloc (.cells #[.slice aR n cR] 95)) ai (foldP m i)[j]))
              have hsz := h3.size
              have HBN := hid (bnew wr (.cells #[.slice aR n cR] 95))
              obtain ⟨k0, k1, _, _⟩ := box2 hX7
              clear hX7 hown hvl hvr hrl h3
              go_wp2_with (at_builtin; refine wpList_append_val Try.underlying24 info95 _ rfl _ _ rfl w7.heap.size _ vs rfl (own_below HOWN.out (bnew _ _)) ⟨wr.heap.size, 0, none⟩ 1 (.slice aR n cR) rfl rfl (cell0_alloc _ _ _) (by omega) (by simp; omega) ?_; intro v' wz hown hgr; obtain ⟨aV, cV, hv'⟩ := own_slice hown; rw [List.length_append] at hv'; simp only [List.length_cons, List.length_nil, Nat.zero_add] at hv'; subst hv'; have HO := hid hown; have HBB := hid (show Below w7.heap.size (wr.alloc (.cells #[.slice aR n cR] 95)) wz from Below.grown (Below.refl _ _) hgr (Nat.le_trans hsz HBN.out.size) (own_ge HOWN.out)); have HGR2 := hid hgr; have HXZ := hid ((HBB.out.block g7 HLT7.out).trans (keepBox HBN.out HX7.out)); obtain ⟨z0, z1, y0, y1⟩ := box2 HXZ.out; clear hown hgr)
              go_roundg (m.length - (i + 1))
              case measure => omega
              case rel =>
                have hq := HO.out
                have hpush := OwnG.push (v := _) (ai := aR) (ci := cR) HVL.out (own_below HOWN.out (bnew _ _)) HVR2.out HRW.out (by rw [HRL.out]; exact hq) HGR2.out
                have hbut : But g7 wz (wz.setCell ⟨g7, 1, none⟩ (.slice aV (vs.length + 1) cV)) := (But.refl _ _).set _ _
                refine ⟨i + 1, by omega, rfl, by go_num, hid ⟨.slice aV (vs.length + 1) cV, ?_, ?_, ?_⟩⟩
                · exact (heap_setCell_same _ _ _ _ _ _ HXZ.out).trans rfl
                · rw [HSUCC.out, ← HN'.out]
                  exact hpush.but hbut ⟨_, _, HXZ.out, by decide, by decide⟩
                · exact ((HH3.out.trans (But.of_below HBN.out)).then_below HBB.out).trans hbut
    · have him : i = m.length := by omega
      subst him
      obtain ⟨v, hX7, hG, h3⟩ := HK.out
      obtain ⟨aG, cG, rfl, hrd, hng⟩ := hG.rd
      rw [foldP_end] at hrd hX7
      have hgl : (foldG m).length = m.length := by unfold foldG; rw [List.length_map]
      rw [hgl] at hX7
      have HGL := hid hgl
      have HH3 := hid h3
      have hX2 := keepBox HBW.out HX0.out
      have HL2 := hid (lt_of_heap HX0.out)
      obtain ⟨k0, k1, _, _⟩ := box2 hX7
      obtain ⟨r0, r1, r2, _, _, _⟩ := box3 hX2
      have HGG := hid hG
      have HX22 := hid hX2
      clear hX7 hX2 hG hrd hng hgl h3
      go_wp2
      refine bodyPost_ret (v := .agg #[.slice ac (colsN m) cc, .slice aG m.length cG, .int .i64 0]) (by simp [results, Try.results16, go_sem, r0, r1, r2]) rfl ?_
      have hbW : But g2 wr (((wr.setCell ⟨g2, 0, none⟩ (.slice ac (colsN m) cc)).setCell ⟨g2, 1, none⟩ (.slice aG m.length cG)).setCell ⟨g2, 2, none⟩ (.int .i64 0)) := (((But.refl _ _).set _ _).set _ _).set _ _
      have hg := HG.out
      have hs1 := HB0.out.size
      have hs2 := HBW.out.size
      have hs7 := HB7.out.size
      refine ⟨HB0.out.trans ((HBW.out.mono HB0.out.size).trans (hbW.below (by omega) (by omega))), ac, cc, aG, cG, ?_, ?_, ?_⟩
      · rw [HCLL.out, HGL.out]
      · refine (HAC7.out.but HH3.out (fun b off e => Nat.ne_of_lt (HLT.out b off e))).but hbW fun b off e => ?_
        have h1 := HNA.out b off e
        have h2 := HL2.out
        have h3 := HB2.out.size
        omega
      · obtain ⟨a9, c9, e9, hrd9, _⟩ := (HGG.out.but hbW ⟨_, _, HX22.out, by decide, by decide⟩).rd
        rw [foldP_end] at e9 hrd9
        injection e9 with e1 e2 e3
        subst e1
        exact hrd9

set_option maxRecDepth 100000 in
set_option maxHeartbeats 4000000 in
theorem rFold_any (m : List (List Int)) (a : Option Addr) (cap : Nat) (w : World) (hl : RdM w a m) (hlen : m.length ≤ 1000000) (hrl : ∀ r, r ∈ m → r.length ≤ 1000000) :
    Calls Try.prog 16 #[.slice a m.length cap] w (FoldS (foldC m) (foldV m) (chkM m) w) := by
  by_cases hE : chkM m = 0
  · exact rfold_ok m a cap w hl hE
  · have HL := hid hl; clear hl
    have HR := hid hrl; clear hrl
    have hv : foldC m = [] ∧ foldV m = [] := ⟨by unfold foldC; rw [if_neg hE], by unfold foldV; rw [if_neg hE]⟩
    rw [hv.1, hv.2]
    have hne : (chkM m != 0) = true := by rw [bne_iff_ne]; exact hE
    have HB0 := hid (bnew w (.cells #[.slice none 0 0, .slice none 0 0, .int .i64 0] 33))
    have HX0 := hid (heapn w (.cells #[.slice none 0 0, .slice none 0 0, .int .i64 0] 33) _ rfl)
    clear hE hv
    go_enter Try.func16, Try.ntmps16
    go_wp2_with (go_at_call 45; (with_reducible refine (rcheck_any m a cap _ (HL.out.below HB0.out) hlen HR.out).mono ?_); rintro e w1 ⟨rfl, hb⟩; have HB := hid (HB0.out.step hb); obtain ⟨r0, r1, r2, z0, z1, z2⟩ := box3 (keepBox hb HX0.out); clear hb)
    exact bodyPost_ret (v := .agg #[.slice none 0 0, .slice none 0 0, .int .i64 (chkM m)]) (by simp [results, Try.results16, go_sem, r0, r1, r2]) rfl ⟨((HB.out.setCell (by simp) _).setCell (by simp) _).setCell (by simp) _, none, 0, none, 0, rfl, fun i hi => absurd hi (Nat.not_lt_zero _), fun i hi => absurd hi (Nat.not_lt_zero _)⟩
end Go.Proofs.Ytliajnflmddnoaa
