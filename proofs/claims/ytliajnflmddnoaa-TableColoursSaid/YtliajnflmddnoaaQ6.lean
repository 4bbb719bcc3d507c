/- The contract of the reference's Clique. -/
import Derived.Test.YtliajnflmddnoaaQ5
namespace Go.Proofs.Ytliajnflmddnoaa
open Go.RowKit

/-- What the reference returns: numbers, and a number, in a struct. -/
def NumsRet (l : List Int) (y : Int) (w : World) (e : Ending) (w' : World) : Prop := Below w.heap.size w w' ∧ ∃ a c, e = .returned (.agg #[.slice a l.length c, .int .i64 y]) ∧ RdI w' a l

set_option maxRecDepth 100000 in
set_option maxHeartbeats 4000000 in
theorem rClique_any (m : List (List Int)) (a : Option Addr) (cap : Nat) (w : World) (hl : RdM w a m) (hlen : m.length ≤ 1000000) (hrl : ∀ r, r ∈ m → r.length ≤ 1000000) :
    Calls Try.prog 44 #[.slice a m.length cap] w (NumsRet (cliqueV m) (chkM m) w) := by
  have HL := hid hl; clear hl
  have HR := hid hrl; clear hrl
  have HB0 := hid (bnew w (.cells #[.slice none 0 0, .int .i64 0] 87))
  have HX0 := hid (heapn w (.cells #[.slice none 0 0, .int .i64 0] 87) _ rfl)
  obtain ⟨i0, hi, hz0, hz1, hz2⟩ := info_parts info3
  by_cases hE : chkM m = 0
  · have hm := chkM_ok hE
    have HM := hid hm
    have HE := hid hE
    have HV : Hid (cliqueV m = asI (cliqueL m)) := hid (if_pos hE)
    have h0 := hm.some'
    have hr60 := hm.rows
    have HBI := hid (bst_is hm)
    have HBS := hid (bstU_spec m)
    obtain ⟨b0, o0, ha, hlt0, _⟩ := HL.out.head h0
    subst ha
    clear hE hm
    rw [HV.out, HE.out]
    go_enter Try.func44, Try.ntmps44
    go_wp2_with (go_at_call 45; (with_reducible refine (rcheck_any m _ cap _ (HL.out.below HB0.out) hlen HR.out).mono ?_); rw [HE.out]; rintro e w1 ⟨rfl, hb⟩; have HB := hid (HB0.out.step hb); have HX1 := hid (keepBox hb HX0.out); clear hb)
    go_loopg [4, 5] m.length (fun gh s4 s5 wr => ∃ k : Nat, k ≤ m.length ∧ gh = m.length - k ∧ s5 = .int .i64 k ∧ s4 = .int .i64 (bstU m k) ∧ Hid (Below w1.heap.size w1 wr))
    case atStart => exact ⟨0, Nat.zero_le _, rfl, rfl, rfl, hid (Below.refl _ _)⟩
    case round =>
      obtain ⟨k, hk, rfl, rfl, rfl, HK⟩ := hrel
      by_cases hlt : k < m.length
      · have hlt' : (k : Int) < (m.length : Int) := by omega
        have hbl : bstU m k < m.length := by
          by_cases e : k = 0
          · rw [e]; exact h0
          · have := (HBS.out k (by omega)).1; omega
        have hbl' : (bstU m k : Int) < (m.length : Int) := by omega
        have HS : Hid (bstU m (k + 1) = if manyN (m.getD (bstU m k) []) < manyN (m.getD k []) then k else bstU m k) := hid rfl
        obtain ⟨br, orr, har, hlr, ai, ci, hcr, hrr⟩ := (HL.out.below (HB.out.step HK.out)).row hlt
        cases har
        obtain ⟨br', orr', har', hlr', aj, cj, hcs, hrs⟩ := (HL.out.below (HB.out.step HK.out)).row hbl
        cases har'
        have H1 := hid (HM.out.row hlt).1
        have H2 := hid (HM.out.row hbl).1
        have HC4 := hid HM.out.cols
        generalize bstU m k = bs at *
        obtain ⟨r1, hr1⟩ : ∃ r, r = m.getD k [] := ⟨_, rfl⟩
        obtain ⟨r2, hr2⟩ : ∃ r, r = m.getD bs [] := ⟨_, rfl⟩
        rw [← hr1] at hcr hrr HS H1
        rw [← hr2] at hcs hrs HS H2
        have HRR := hid hrr
        have HRS := hid hrs
        clear hr1 hr2 hrr hrs
        have HM1 := hid (fun w' (h : RdI w' ai r1) => many_any r1 ai ci w' h (by rw [H1.out]; have := HC4.out; omega))
        have HM2 := hid (fun w' (h : RdI w' aj r2) => many_any r2 aj cj w' h (by rw [H2.out]; have := HC4.out; omega))
        have hm1 := manyN_le r1
        have hm2 := manyN_le r2
        rw [H1.out] at hm1
        rw [H2.out] at hm2
        generalize manyN r1 = y1 at *
        generalize manyN r2 = y2 at *
        by_cases hy : y2 < y1
        · have d1 : decide ((y2 : Int) < (y1 : Int)) = true := decide_eq_true (by omega)
          have d2 : decide (y2 < y1) = true := decide_eq_true hy
          have HN : Hid (bstU m (k + 1) = k) := hid (by rw [HS.out, if_pos hy])
          clear hy
          go_upto_region 8 with fail
          go_quiet ((go_at_call 74; first | (with_reducible exact Calls.quiet_of_same (retS (HM1.out _ (HRR.out.below (bdrewN (Below.refl _ _) _))))) | (with_reducible exact Calls.quiet_of_same (retS (HM2.out _ (HRS.out.below (bdrewN (Below.refl _ _) _)))))))
          go_wp2
          go_roundg (m.length - (k + 1))
          case measure => omega
          case rel => exact ⟨k + 1, by omega, rfl, by go_num, by rw [HN.out], hid (bdrewN HK.out _)⟩
        · have d1 : decide ((y2 : Int) < (y1 : Int)) = false := decide_eq_false (by omega)
          have d2 : decide (y2 < y1) = false := decide_eq_false hy
          have HN : Hid (bstU m (k + 1) = bs) := hid (by rw [HS.out, if_neg hy])
          clear hy
          go_upto_region 8 with fail
          go_quiet ((go_at_call 74; first | (with_reducible exact Calls.quiet_of_same (retS (HM1.out _ (HRR.out.below (bdrewN (Below.refl _ _) _))))) | (with_reducible exact Calls.quiet_of_same (retS (HM2.out _ (HRS.out.below (bdrewN (Below.refl _ _) _)))))))
          go_wp2
          go_roundg (m.length - (k + 1))
          case measure => omega
          case rel => exact ⟨k + 1, by omega, rfl, by go_num, by rw [HN.out], hid (bdrewN HK.out _)⟩
      · have hkm : k = m.length := by omega
        subst hkm
        have hbl : bstU m m.length < m.length := (HBS.out _ h0).1
        have HB2 := hid (HB.out.step HK.out)
        have HX2 := hid (keepBox HK.out HX1.out)
        have HCL : Hid (cliqueL m = fullL (m.getD (bstU m m.length) [])) := hid (by rw [HBI.out]; rfl)
        obtain ⟨bs, hbs⟩ : ∃ bs, bs = bstU m m.length := ⟨_, rfl⟩
        rw [← hbs] at hbl HCL ⊢
        clear hbs hlt hk
        have hbl' : (bs : Int) < (m.length : Int) := by omega
        have HRL := hid (HM.out.row hbl).1
        obtain ⟨row, hrow⟩ : ∃ row, row = m.getD bs [] := ⟨_, rfl⟩
        rw [← hrow] at HCL HRL
        have HROW := hid hrow
        clear hrow
        have hrl := HRL.out
        have hr4 := HM.out.cols
        obtain ⟨wb, rfl⟩ : ∃ wb : World, wb = wr := ⟨_, rfl⟩
        have HRL4 := hid hrl
        go_wp2
        go_loopg [6, 7] row.length (fun gh s6 s7 wr => ∃ k : Nat, k ≤ row.length ∧ gh = row.length - k ∧ s7 = .int .i64 k ∧ Hid (OwnI wr wb.heap.size s6 (asI (fullU row k)) ∧ Below wb.heap.size wb wr))
        case atStart => exact ⟨0, Nat.zero_le _, rfl, rfl, hid ⟨World.ownsRow_nil _ _ _ _, Below.refl _ _⟩⟩
        case round =>
          obtain ⟨k, hk, rfl, rfl, HX⟩ := hrel
          obtain ⟨br, orr, har, hlr, ai, ci, hcr, hrr⟩ := (HL.out.below (HB2.out.step HX.out.2)).row hbl
          cases har
          rw [← HROW.out] at hcr hrr
          by_cases hlk : k < row.length
          · have nk : (k : Int) < (row.length : Int) := by omega
            have HS := hid (fullU_succ row k)
            have hfl := fullU_length row k
            obtain ⟨bq, oq, hai, hlq, h2⟩ := hrr.at hlk
            subst hai
            generalize row.getD k (-1) = x at *
            clear hrr
            by_cases hx : x = -1
            · have d1 : (x != -1) = false := by simp [hx]
              have HN : Hid (fullU row (k + 1) = fullU row k) := hid (by rw [HS.out, if_neg (by unfold nz; rw [d1]; simp)])
              clear hx
              go_wp2
              go_roundg (row.length - (k + 1))
              case measure => omega
              case rel => exact ⟨k + 1, by omega, rfl, by go_num, hid ⟨by rw [HN.out]; exact HX.out.1, HX.out.2⟩⟩
            · have d1 : (x != -1) = true := by simp [hx]
              have HN : Hid (fullU row (k + 1) = fullU row k ++ [k]) := hid (by rw [HS.out, if_pos (by unfold nz; exact d1)])
              clear hx
              have hsz := HX.out.2.size
              go_wp2_with (at_builtin; refine wpList_append_ints _ rfl _ _ rfl wb.heap.size _ _ [(k : Int)] rfl (OwnI.later HX.out.1 (bnew _ _)) (some ⟨wr.heap.size, 0, none⟩) 1 rfl (rd_one _ _ _) (by rw [asI_length]; simp; omega) (by simp; omega) ?_; intro v' w3 hown' hgrow hnil; have HO := hid hown'; have HG := hid hgrow; clear hown' hgrow hnil)
              go_roundg (row.length - (k + 1))
              case measure => omega
              case rel =>
                refine ⟨k + 1, by omega, rfl, by go_num, hid ⟨?_, ?_⟩⟩
                · rw [HN.out]
                  unfold asI
                  rw [List.map_append]
                  exact HO.out
                · exact ((HX.out.2.alloc hsz _).grown HG.out (by simp; omega) (own_ge HX.out.1))
          · have hkl : k = row.length := by omega
            subst hkl
            obtain ⟨ac, cc, gc, rfl, _, _, hrd, _, hnew⟩ := ownI_wr HX.out.1
            have HX3 := hid (keepBox HX.out.2 HX2.out)
            obtain ⟨r0, r1, z0, z1⟩ := box2 HX3.out
            have HRD := hid hrd
            have HNEW := hid hnew
            clear hrd hnew hrr hrl
            go_wp2
            refine bodyPost_ret (v := .agg #[.slice ac (asI (fullL row)).length cc, .int .i64 0]) (by simp [results, Try.results44, go_sem, r0, r1, fullL]) rfl ⟨((HB2.out.step HX.out.2).setCell (Nat.le_refl _) _).setCell (Nat.le_refl _) _, ac, cc, by rw [HCL.out], ?_⟩
            rw [HCL.out]
            have hbW : But w.heap.size wr ((wr.setCell ⟨w.heap.size, 0, none⟩ (.slice ac (asI (fullL row)).length cc)).setCell ⟨w.heap.size, 1, none⟩ (.int .i64 0)) := ((But.refl _ _).set _ _).set _ _
            refine HRD.out.but hbW fun b off e => ?_
            have h1 := HNEW.out b off e
            have h2 := lt_of_heap HX2.out
            omega
  · have hne : (chkM m != 0) = true := by rw [bne_iff_ne]; exact hE
    have HV : Hid (cliqueV m = []) := hid (by unfold cliqueV; rw [if_neg hE])
    clear hE
    rw [HV.out]
    go_enter Try.func44, Try.ntmps44
    go_wp2_with (go_at_call 45; (with_reducible refine (rcheck_any m _ cap _ (HL.out.below HB0.out) hlen HR.out).mono ?_); rintro e w1 ⟨rfl, hb⟩; have HB := hid (HB0.out.step hb); have HX1 := hid (keepBox hb HX0.out); obtain ⟨r0, r1, z0, z1⟩ := box2 HX1.out; clear hb)
    exact bodyPost_ret (v := .agg #[.slice none 0 0, .int .i64 (chkM m)]) (by simp [results, Try.results44, go_sem, r0, r1]) rfl ⟨(HB.out.setCell (Nat.le_refl _) _).setCell (Nat.le_refl _) _, none, 0, rfl, fun i hi => absurd hi (Nat.not_lt_zero _)⟩
end Go.Proofs.Ytliajnflmddnoaa
