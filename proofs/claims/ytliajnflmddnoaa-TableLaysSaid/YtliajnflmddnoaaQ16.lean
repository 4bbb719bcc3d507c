/- The contract of the reference's Lay. -/
import Derived.Test.YtliajnflmddnoaaQ11
import Derived.Test.YtliajnflmddnoaaQ5
namespace Go.Proofs.Ytliajnflmddnoaa
open Go.RowKit

theorem drew_set (A : World) (p : Addr) (v : Value) : A.drew.setCell p v = (A.setCell p v).drew := rfl

set_option maxRecDepth 100000 in
set_option maxHeartbeats 8000000 in
theorem rlay_ok (m : List (List Int)) (a : Option Addr) (cap : Nat) (w : World) (hl : RdM w a m) (hE : chkM m = 0) :
    Calls Try.prog 21 #[.slice a m.length cap] w (LaysRet (layV m) 0 (chkM m) w) := by
  have HL := hid hl; clear hl
  have hm := chkM_ok hE
  have HM := hid hm
  have hv : layV m = layR m := by unfold layV; rw [if_pos hE]
  rw [hv, hE]
  have HB0 := hid (bnew w (.cells laysZero 48))
  have HX2 := hid (heapn w (.cells laysZero 48) _ rfl)
  have h60 := hm.rows
  have HC := hid (fun (w : World) (h : RdM w a m) => (by have := rcheck_any m a cap w h (by omega) (fun r hr => by obtain ⟨i, hi, rfl⟩ := List.getElem_of_mem hr; rw [hm.len i hi]; have := hm.cols; omega); rw [hE] at this; exact this : Calls Try.prog 45 #[.slice a m.length cap] w (RetB (.int .i64 0) w)))
  obtain ⟨b0, o0, ha, hlt0, ai0, ci0, hc0⟩ := HL.out.head hm.some'
  subst ha
  have n0 : (0 : Int) < (m.length : Int) := by have := hm.some'; omega
  have n0m := hm.some'
  have HC0 := hid (cell_later HB0.out hc0)
  have hmk := fun w => run_make_row' (P := Try.prog) 23 3 (.int .i64 0) 8 Try.underlying23 info3 rfl .i64 .i64 m.length (by omega) (by omega) w
  clear hE hm hv hc0
  go_enter Try.func21, Try.ntmps21
  go_wp2_with fail
  generalize w.alloc (.cells laysZero 48) = w1 at *
  obtain ⟨g2, hg2⟩ : ∃ g, g = w.heap.size := ⟨_, rfl⟩
  rw [← hg2] at HX2
  rw [← hg2]
  have HG := hid hg2
  clear hg2
  go_upto_region 5 with (first
    | (go_at_call 45; (with_reducible refine (HC.out _ (HL.out.below HB0.out)).mono ?_); rintro e w2 ⟨rfl, hb⟩; have HB2 := hid hb; clear hb)
    | (go_at_call 32; (with_reducible refine (rOrder_any m _ cap _ HM.out (HL.out.below (HB0.out.step HB2.out))).mono ?_); rintro e w3 ⟨hb, v, rfl, hown⟩; obtain ⟨aO, cO, gO, rfl, _, hgO, _, hbi, _⟩ := ownI_wr hown; rw [asI_length]; have HB3 := hid (HB2.out.step hb); have HBO := hid hbi; clear hown hgO hbi hb))
  have hol := order_length HM.out
  have hne : asI (orderL m) ≠ [] := by
    intro e
    have h1 : (asI (orderL m)).length = 0 := by rw [e]; rfl
    rw [asI_length] at h1
    omega
  have hav := (HBO.out hne).1
  have HBI3 := hid (HBO.out hne).2
  clear HBO
  subst hav
  have HOL := hid hol
  rw [hol]
  clear hne hol
  go_cut [5] (fun s5 wx => ∃ g5 gS, s5 = .pointer (some ⟨g5, 0, none⟩) ∧ Hid (Laying m w3.heap.size m.length g5 gS (List.replicate m.length 0) [] wx ∧ Below w3.heap.size w3 wx))
  case first =>
    have hb := bdrew w3
    have HC1 := hid (cell_later HB3.out HC0.out)
    have n0e : m ≠ [] := by intro e; rw [e] at n0m; simp at n0m
    have n0d : decide (0 < m.length) = true := by simpa using n0m
    go_region_held3 (fun w' => w'.cell? ⟨b0, o0, none⟩ = some (.slice ai0 (colsN m) ci0)) (first | exact HC1.out | exact cell_later (by repeat (first | exact hb | exact Below.refl _ _ | refine bmore ?_ _ | refine Below.setCell ?_ (by simp <;> omega) _ | refine Below.drew ?_)) HC1.out | go_keep) (fail)
    all_goals
      go_wp2_with fail
      go_meet
      first
        | exact ⟨_, _, rfl, hid ⟨laying_a m w3 _, ((bnew _ _).step (bnew _ _)).drew⟩⟩
        | exact ⟨_, _, rfl, hid ⟨laying_b m w3 _, ((bnew _ _).step (bnew _ _)).drew⟩⟩
  case rest =>
    obtain ⟨g5, gS, rfl, HLY⟩ := hcut
    clear hmk
    obtain ⟨wq, hwq⟩ : ∃ wq, wq = wc := ⟨_, rfl⟩
    rw [← hwq] at HLY
    rw [← hwq]
    clear hwq
    have HB1q := hid (HB3.out.step HLY.out.2)
    have HBIq := hid (HBI3.out.below HLY.out.2)
    have HGL := hid (show w3.heap.size ≤ g5 ∧ w3.heap.size ≤ gS from by
      obtain ⟨_, _, _, _, e1, e2, _⟩ := HLY.out.1
      exact ⟨e1, e2⟩)
    have HGO := hid HBI3.out.lt
    go_wp2_with fail
    go_loopg [6] m.length (fun gh s6 wr => ∃ k : Nat, k ≤ m.length ∧ gh = m.length - k ∧ s6 = .int .i64 k ∧ Hid (Laying m w3.heap.size m.length g5 gS (layU m ((orderL m).take k)).1 (layU m ((orderL m).take k)).2 wr ∧ Below w3.heap.size w3 wr ∧ BI wr gO (asI (orderL m))))
    case atStart => exact ⟨0, Nat.zero_le _, rfl, rfl, hid ⟨HLY.out.1, HLY.out.2, HBIq.out⟩⟩
    case round =>
      obtain ⟨k, hk, rfl, rfl, HK⟩ := hrel
      by_cases hlt : k < m.length
      · have n1 : (k : Int) < (m.length : Int) := by omega
        have hko : k < (orderL m).length := by rw [HOL.out]; exact hlt
        have c1 := HK.out.2.2.at (i := k) (by rw [asI_length]; exact hko)
        rw [asI_getElem _ hko] at c1
        have hpre := layU_prefix HM.out hk
        have hsucc := layU_succ hko
        have hi : (orderL m)[k] < m.length := (order_mem HM.out).1 (List.getElem_mem hko)
        obtain ⟨i, hie⟩ : ∃ i, i = (orderL m)[k] := ⟨_, rfl⟩
        rw [← hie] at c1 hsucc hi
        obtain ⟨br, orr, har, hlr, ai, ci, hcr, hrr⟩ := (HL.out.below (HB0.out.step (HB3.out.step HK.out.2.1))).row hi
        cases har
        have HSU := hid hsucc
        have HSL := hid hpre.len
        have hcs := hpre.size
        have HIE := hid hie
        clear hie hsucc hpre
        obtain ⟨aC, cC, h1, h2, h3, h4, h5, h6, h7⟩ := HK.out.1
        have HROW := hid (HM.out.row hi)
        have hcs2 : (layU m ((orderL m).take k)).2.length ≤ 40000 := by
          have e1 : ((orderL m).take k).length ≤ 60 := by rw [List.length_take]; omega
          have e2 := HM.out.cols
          have : ((orderL m).take k).length * colsN m ≤ 60 * 400 := Nat.mul_le_mul e1 e2
          omega
        have HPL := hid fun w h1 h2 => rput_any (layU m ((orderL m).take k)).2 aC cC (m.getD i []) ai ci (i : Nat) w h1 hcs2 h2 (by rw [HROW.out.1]; have := HM.out.cols; omega)
        obtain ⟨row, hrw⟩ : ∃ row, row = m.getD i [] := ⟨_, rfl⟩
        have hsu : layStep m (layU m ((orderL m).take k)) i = ((layU m ((orderL m).take k)).1.set i (startN (layU m ((orderL m).take k)).2 row), putL (layU m ((orderL m).take k)).2 row i) := by rw [hrw]; rfl
        have HSU := hid (HSU.out.trans hsu)
        rw [← hrw] at hcr hrr HPL
        clear HROW hsu hrw
        have hSl : i < (layU m ((orderL m).take k)).1.length := by rw [HSL.out]; exact hi
        generalize layU m ((orderL m).take k) = st at *
        obtain ⟨S, C⟩ := st
        simp only at h1 h2 h5 h6 hcs hcs2 hSl HPL
        obtain ⟨s0, s1, s2, f0, f1, f2⟩ := box3 h1
        have hLAY : Hid (Laying m w3.heap.size m.length g5 gS S C wr) := hid HK.out.1
        have H1 := hid h1
        have H2 := hid h2
        have H6 := hid h6
        have HRR := hid hrr
        have HSLT := hid hSl
        have hSi : (i : Int) < (m.length : Int) := by omega
        obtain ⟨s9, hs9⟩ : ∃ s, s = startN C row := ⟨_, rfl⟩
        obtain ⟨C9, hC9⟩ : ∃ s, s = putL C row i := ⟨_, rfl⟩
        have hw9 := fun w h1 h2 => HPL.out w h1 h2
        rw [← hs9, ← hC9] at hw9
        have HPL := hid hw9
        have HS9 := hid hs9
        have HC9 := hid hC9
        have HNB := hid h7
        have hne1 : ¬ gS = g5 := fun e => H2.out.ne_box H1.out e.symm
        have hne2 : ¬ g5 = gS := fun e => H2.out.ne_box H1.out e
        clear hw9 hs9 hC9 h1 h2 h3 h4 h5 h6 hrr hSl h7 hcs hcs2
        have K : Hid (∀ w', Below wr.heap.size wr w' → (w'.cell? ⟨g5, 2, none⟩ = some (.slice aC C.length cC) ∧ w'.cell? ⟨gO, k, none⟩ = some (.int .i64 i) ∧ w'.cell? ⟨b0, o0 + i, none⟩ = some (.slice ai row.length ci))) := hid fun w' h => ⟨cell_later h s2, cell_later h c1, cell_later h hcr⟩
        clear s0 s1 s2 f0 f1 f2 c1 hcr
        go_upto_region 9 with fail
        have hb := bdrew wr
        go_region_held3 (fun w' => w'.cell? ⟨g5, 2, none⟩ = some (.slice aC C.length cC) ∧ w'.cell? ⟨gO, k, none⟩ = some (.int .i64 i) ∧ w'.cell? ⟨b0, o0 + i, none⟩ = some (.slice ai row.length ci)) (first | exact K.out _ hb | exact K.out _ (Below.refl _ _))
          ((go_at_call 56; (with_reducible refine (HPL.out _ (H6.out.below hb) (HRR.out.below hb)).mono ?_); rintro e w9 ⟨hbb, a9, c9, rfl, hc9, hrp, hn9⟩; have hrp := hid hrp; have hc9 := hid hc9; have hn9 := hid (show NewA wr.heap.size a9 from fun b off e => Nat.le_trans hb.size (hn9 b off e)); have hb := hb.step hbb; clear hbb))
        have HB9 := hid hb
        have H19 := hid (keepBox hb H1.out)
        obtain ⟨s0, s1, s2, f0, f1, f2⟩ := box3 H19.out
        have HBI9 := hid (HK.out.2.2.below hb)
        clear hb
        go_upto_region 11 with fail
        have hbut : But g5 w9 (w9.setCell ⟨g5, 2, none⟩ (.slice a9 C9.length c9)) := (But.refl _ _).set _ _
        have hX5 : (w9.setCell ⟨g5, 2, none⟩ (.slice a9 C9.length c9)).heap[g5]? = some (.cells #[.int .i64 (colsN m), .slice (some ⟨gS, 0, none⟩) m.length m.length, .slice a9 C9.length c9] 44 (0, 0)) := (heap_setCell_same _ _ _ _ _ _ H19.out).trans rfl
        have hnO : gO ≠ g5 := by have := HGO.out; have := HGL.out.1; omega
        have hbiO := HBI9.out.but hbut hnO
        have hbiS := (H2.out.below HB9.out).but hbut hne1
        have hat := hbiS.at HSLT.out
        have hfr := hbiS.frozen i
        have c1 := hbiO.at (i := k) (by rw [asI_length]; exact hko)
        rw [asI_getElem _ hko, ← HIE.out] at c1
        obtain ⟨s0, s1, s2, f0, f1, f2⟩ := box3 hX5
        generalize S[i] = old at hat
        clear hbiO hbiS hX5 hbut hne1 hne2
        obtain ⟨W1, hW1⟩ : ∃ W1, W1 = w9.setCell ⟨g5, 2, none⟩ (.slice a9 C9.length c9) := ⟨_, rfl⟩
        rw [← hW1] at hat hfr c1 s0 s1 s2 f0 f1 f2
        rw [← hW1]
        have HW1 := hid hW1
        clear hW1
        go_still_tail 8, (by kernel_rfl)
        change wpList _ _ _ _ _ W1.drew
        have hatd : W1.drew.cell? ⟨gS, i, none⟩ = some (.int .i64 old) := hat
        have hfrd : W1.drew.frozen? ⟨gS, i, none⟩ = false := hfr
        clear hat hfr c1 s0 s1 s2 f0 f1 f2
        go_wp2_with fail
        go_roundg (m.length - (k + 1))
        case measure => omega
        case rel =>
          refine ⟨k + 1, by omega, rfl, by go_num, hid ?_⟩
          rw [HSU.out, ← HS9.out, ← HC9.out, HW1.out]
          have hnn : ∀ b off, a9 = some ⟨b, off, none⟩ → w3.heap.size ≤ b ∧ b ≠ gS ∧ b ≠ g5 := fun b off e => by
            have e1 := hn9.out b off e
            have e2 := H2.out.lt
            have e3 := lt_of_heap H1.out
            have e5 := HK.out.2.1.size
            omega
          have hO : gO ≠ gS ∧ gO ≠ g5 := by
            have e1 := HGO.out
            have e2 := HGL.out
            omega
          have q := laying_fin (s := (s9 : Int)) hLAY.out HK.out.2.1 HB9.out HSLT.out hc9.out hrp.out hnn HGL.out HK.out.2.2 hO (.inr rfl)
          exact ⟨q.1.below (bdrew _), q.2.1.drew, q.2.2.below (bdrew _)⟩
      · have hkm : k = m.length := by omega
        subst hkm
        have hfull : layU m ((orderL m).take m.length) = layL m := by
          rw [← HOL.out, List.take_of_length_le (Nat.le_refl _)]
          rfl
        have hX2 := keepBox (HB3.out.step HK.out.2.1) HX2.out
        obtain ⟨aC, cC, h1, h2, h3, h4, h5, h6, h7⟩ := HK.out.1
        rw [hfull] at h1 h2 h5 h6
        have HSL := hid (lay_inv HM.out).len
        have H := hid (And.intro h2 (And.intro h5 (And.intro h6 (And.intro h7 h4))))
        have HBW := hid (HB0.out.step (HB3.out.step HK.out.2.1))
        obtain ⟨k0, k1, k2, _, _, _⟩ := box3 h1
        obtain ⟨r0, r1, r2, r3, r4, z0, z1, z2, z3, z4⟩ := box5 hX2
        have HL2 := hid (lt_of_heap HX2.out)
        have HS13 := hid HB3.out.size
        clear hfull hX2 h1 h2 h3 h4 h5 h6 h7
        go_wp2
        refine bodyPost_ret (v := .agg #[.int .i64 (colsN m), .slice (some ⟨gS, 0, none⟩) m.length m.length, .slice aC (layL m).2.length cC, .int .i64 0, .int .i64 0]) (by simp [results, Try.results21, go_sem, r0, r1, r2, r3, r4]) rfl ?_
        have hbW : But g2 wr (((((wr.setCell ⟨g2, 0, none⟩ (.int .i64 (colsN m))).setCell ⟨g2, 1, none⟩ (.slice (some ⟨gS, 0, none⟩) m.length m.length)).setCell ⟨g2, 2, none⟩ (.slice aC (layL m).2.length cC)).setCell ⟨g2, 3, none⟩ (.int .i64 0)).setCell ⟨g2, 4, none⟩ (.int .i64 0)) := (((((But.refl _ _).set _ _).set _ _).set _ _).set _ _).set _ _
        have hg := HG.out
        have hl2 := HL2.out
        have hs13 := HS13.out
        refine ⟨HBW.out.trans (hbW.below (by omega) HBW.out.size), some ⟨gS, 0, none⟩, m.length, aC, cC, ?_, ?_⟩
        · show _ = Ending.returned (.agg #[.int .i64 (colsN m), .slice (some ⟨gS, 0, none⟩) (layL m).1.length m.length, .slice aC (layL m).2.length cC, .int .i64 0, .int .i64 0])
          rw [HSL.out]
        · have hgS := H.out.2.2.2.2
          refine ⟨(H.out.1.but hbW (by omega)).rd, H.out.2.2.1.but hbW fun b off e => ?_, ?_, H.out.2.1⟩
          · have e1 := (H.out.2.2.2.1 b off e).1
            omega
          · show (layL m).1.length ≤ m.length
            rw [HSL.out]
            exact Nat.le_refl _

set_option maxRecDepth 100000 in
set_option maxHeartbeats 4000000 in
theorem rLay_any (m : List (List Int)) (a : Option Addr) (cap : Nat) (w : World) (hl : RdM w a m) (hlen : m.length ≤ 1000000) (hrl : ∀ r, r ∈ m → r.length ≤ 1000000) :
    Calls Try.prog 21 #[.slice a m.length cap] w (LaysRet (layV m) 0 (chkM m) w) := by
  by_cases hE : chkM m = 0
  · exact rlay_ok m a cap w hl hE
  · have HL := hid hl; clear hl
    have HR := hid hrl; clear hrl
    have hv : layV m = emptyL := by unfold layV; rw [if_neg hE]
    rw [hv]
    have hne : (chkM m != 0) = true := by rw [bne_iff_ne]; exact hE
    have HB0 := hid (bnew w (.cells laysZero 48))
    have HX0 := hid (heapn w (.cells laysZero 48) _ rfl)
    clear hE hv
    go_enter Try.func21, Try.ntmps21
    go_wp2_with (go_at_call 45; (with_reducible refine (rcheck_any m a cap _ (HL.out.below HB0.out) hlen HR.out).mono ?_); rintro e w1 ⟨rfl, hb⟩; have HB := hid (HB0.out.step hb); obtain ⟨r0, r1, r2, r3, r4, z0, z1, z2, z3, z4⟩ := box5 (keepBox hb HX0.out); clear hb)
    exact bodyPost_ret (v := .agg #[.int .i64 0, .slice none 0 0, .slice none 0 0, .int .i64 0, .int .i64 (chkM m)]) (by simp [results, Try.results21, go_sem, r0, r1, r2, r3, r4]) rfl (LaysRet.empty _ (((((HB.out.setCell (by simp) _).setCell (by simp) _).setCell (by simp) _).setCell (by simp) _).setCell (by simp) _))
end Go.Proofs.Ytliajnflmddnoaa
