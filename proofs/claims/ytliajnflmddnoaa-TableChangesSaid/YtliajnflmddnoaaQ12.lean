/- The contract of the reference's Insert, where the row is inserted. -/
import Derived.Test.YtliajnflmddnoaaQ11
namespace Go.Proofs.Ytliajnflmddnoaa
open Go.RowKit

theorem rins_end {L : Ld} {row : List Int} {st pl g4 c' c10 : Nat} {a' a10 : Option Addr} {w w9 w' W : World} (hg : g4 = w.heap.size + 1) (hpl : (putL L.cells row (L.starts.length : Nat)).length = pl) (hb0 : Below w.heap.size w w9) (hsz : w.heap.size + 2 ≤ w9.heap.size) (hb : Below w9.heap.size w9 w') (hrp : RdP w9 a10 (putL L.cells row (L.starts.length : Nat)))
    (hr : RdI w' a' (L.starts ++ [(st : Int)])) (hc : L.starts.length + 1 ≤ c') (hc10 : (putL L.cells row (L.starts.length : Nat)).length ≤ c10) (hn10 : NewA (w.heap.size + 2) a10) (hn : NewA w9.heap.size a') (hw : But g4 w' W) :
    LaysRet ⟨L.cols, L.starts ++ [(st : Int)], putL L.cells row (L.starts.length : Nat)⟩ L.starts.length 0 w (.returned (.agg #[.int .i64 L.cols, .slice a' (L.starts.length + 1) c', .slice a10 pl c10, .int .i64 L.starts.length, .int .i64 0])) W := by
  have hw2 : Below w.heap.size w' W := hw.below (by omega) (by have := hb.size; omega)
  have e : (L.starts ++ [(st : Int)]).length = L.starts.length + 1 := by simp
  refine ⟨(hb0.step hb).trans hw2, a', c', a10, c10, ?_, hr.but hw fun b off e => ?_, (hrp.below hb).but hw fun b off e => ?_, by show (L.starts ++ [(st : Int)]).length ≤ c'; rw [e]; exact hc, hc10⟩
  · rw [e, hpl]
  · have := hn b off e
    omega
  · have := hn10 b off e
    omega

set_option maxRecDepth 100000 in
set_option maxHeartbeats 1000000 in
theorem rins_ok (L : Ld) (hf : Fit L) (row : List Int) (ar : Option Addr) (cr : Nat) (sa : Option Addr) (sc : Nat) (ca : Option Addr) (cc : Nat) (w : World) (hm : LdM w L sa sc ca cc) (hr : RdI w ar row) (hrl : row.length ≤ 1000) (hE : chkL L = 0) (hq : (row.length : Int) = L.cols) (ha : row.all rightB = true) (h60 : L.starts.length < 60) (h30 : ¬ 30000 < (putL L.cells row (L.starts.length : Nat)).length) :
    Calls Try.prog 25 #[vL L sa sc ca cc, .slice ar row.length cr] w (LaysRet (insV L row) (insAt L row) (insE L row) w) := by
  have HM := hid hm; clear hm
  have HR := hid hr; clear hr
  obtain ⟨hb0, hx0, hr0⟩ := two_new w #[.int .i64 L.cols, .slice sa L.starts.length sc, .slice ca L.cells.length cc] laysZero 44 48
  have HSZ : Hid (w.heap.size + 2 ≤ ((w.alloc (.cells #[.int .i64 L.cols, .slice sa L.starts.length sc, .slice ca L.cells.length cc] 44)).alloc (.cells laysZero 48)).heap.size) := hid (by simp)
  have h1 : insE L row = 0 := by unfold insE; rw [if_pos hE, if_pos ⟨hq, ha⟩, if_neg (by omega), if_neg h30]
  have h3 : insV L row = ⟨L.cols, L.starts ++ [(startN L.cells row : Int)], putL L.cells row (L.starts.length : Nat)⟩ := by unfold insV; rw [if_pos h1]
  have h4 : insAt L row = L.starts.length := by unfold insAt; rw [if_pos h1]
  rw [h3, h4, h1]
  have hne : ((row.length : Int) != L.cols) = false := by rw [hq]; simp
  have hn6 : ((L.starts.length : Int) == 60) = false := by rw [beq_eq_false_iff_ne]; omega
  have HC : Hid (∀ w, LdM w L sa sc ca cc → Calls Try.prog 37 #[vL L sa sc ca cc] w (RetB (.int .i64 0) w)) := hid fun w h => by
    have := rcheckL_any L hf sa sc ca cc w h
    rwa [hE] at this
  have hroom := (chkL_ok hE).room
  have HPU := hid (fun (w : World) (h1 : RdP w ca L.cells) (h2 : RdI w ar row) => rput_any L.cells ca cc row ar cr (L.starts.length : Nat) w h1 (by omega) h2 hrl)
  obtain ⟨pl, hpl⟩ : ∃ n, n = (putL L.cells row (L.starts.length : Nat)).length := ⟨_, rfl⟩
  obtain ⟨st, hst⟩ : ∃ n, n = startN L.cells row := ⟨_, rfl⟩
  have HPN := hid hpl.symm
  rw [← hpl] at h30
  rw [← hst] at HPU
  rw [← hst]
  have n30 : ¬ (30000 : Int) < (pl : Int) := by omega
  have hs60 : L.starts.length ≤ 60 := by omega
  have HB0 := hid hb0
  have HX0 := hid hx0
  have HR0 := hid hr0
  have HA := hid ha
  obtain ⟨k0, k1, k2, _, _, _⟩ := box3 hx0
  clear hb0 hx0 hr0 hE hq ha h60 hpl hroom h1 h3 h4 hst
  go_enter Try.func25, Try.ntmps25
  go_wp2_with (go_at_call 37; (with_reducible refine (HC.out _ (HM.out.below HB0.out)).mono ?_); rintro e w1 ⟨rfl, hb⟩; have HB := hid (HB0.out.step hb); have HSZ1 := hid (Nat.le_trans HSZ.out hb.size); have HX1 := hid (keepBox hb HX0.out); have HR1 := hid (keepBox hb HR0.out); obtain ⟨k0, k1, k2, _, _, _⟩ := box3 HX1.out; clear hb)
  obtain ⟨g2, hg2⟩ : ∃ g, g = w.heap.size := ⟨_, rfl⟩
  obtain ⟨g4, hg4⟩ : ∃ g, g = w.heap.size + 1 := ⟨_, rfl⟩
  rw [← hg2] at HX1
  rw [← hg4] at HR1
  rw [← hg2]
  try rw [hg2, ← hg4, ← hg2]
  have HG := hid (And.intro hg2 hg4)
  clear hg2 hg4
  clear k0 k1 k2 hne
  go_loop [6] (fun s6 => ∃ k : Nat, k ≤ row.length ∧ s6 = .int .i64 k) (fun s6 => row.length - (intOf s6).toNat)
  case atStart => exact ⟨0, Nat.zero_le _, rfl⟩
  case round =>
    obtain ⟨k, hk, rfl⟩ := hrel
    by_cases hkl : k < row.length
    · have nk : (k : Int) < (row.length : Int) := by omega
      obtain ⟨b, off, har, hlt, h1⟩ := (HR.out.below HB.out).at hkl
      subst har
      have H8 := hid (rins_step HA.out hkl)
      generalize row.getD k (-1) = x at *
      go_wp2_with (go_at_call 60; (with_reducible refine (rright_any x _).mono ?_); rw [H8.out]; rintro e w' ⟨rfl, rfl⟩)
      go_round
      case rel => exact ⟨k + 1, by omega, by go_num⟩
      case measure => simp [intOf]; omega
    · obtain ⟨k0, k1, k2, _, _, _⟩ := box3 HX1.out
      go_upto_region 17 with (go_at_call 56; (with_reducible refine (HPU.out _ (HM.out.rc.below HB.out) (HR.out.below HB.out)).mono ?_); rintro e w9 ⟨hb, a10, c10, rfl, hc10, hrp, hn10⟩; rw [HPN.out]; have HN10 := hid (show NewA (w.heap.size + 2) a10 from fun b off e => Nat.le_trans HSZ1.out (hn10 b off e)); have HRP := hid hrp; have HC10 := hid hc10; have HB9 := hid (HB.out.step hb); have HSZ9 := hid (Nat.le_trans HSZ1.out hb.size); have HX9 := hid (keepBox hb HX1.out); have HR9 := hid (keepBox hb HR1.out); obtain ⟨k0, k1, k2, _, _, _⟩ := box3 HX9.out; have HS9 := hid (HM.out.rs.below HB9.out); clear hb hrp hc10 hn10)
      have K := hid (And.intro k0 k1)
      have hb := Below.refl w9.heap.size w9
      clear k0 k1 k2
      go_region_held_law (fun w' => w'.cell? ⟨g2, 0, none⟩ = some (.int .i64 L.cols) ∧ w'.cell? ⟨g2, 1, none⟩ = some (.slice sa L.starts.length sc))
        (first
          | (refine ⟨cell_later ?_ K.out.1, cell_later ?_ K.out.2⟩ <;> (repeat (first | with_reducible exact hb | with_reducible exact Below.refl _ _ | with_reducible refine bmore ?_ _ | with_reducible refine Below.drew ?_)); done)
          | exact ⟨(But.cell (M := g4) (w := w2) (p := ⟨g2, 0, none⟩) (by repeat (first | with_reducible exact But.refl _ _ | with_reducible refine But.set ?_ _ _)) (by have h1 := hb.size; have h2 := HSZ9.out; have h3 := HG.out; show g2 < _; omega) (by have h3 := HG.out; show g2 ≠ g4; omega)).trans (cell_later hb K.out.1), (But.cell (M := g4) (w := w2) (p := ⟨g2, 1, none⟩) (by repeat (first | with_reducible exact But.refl _ _ | with_reducible refine But.set ?_ _ _)) (by have h1 := hb.size; have h2 := HSZ9.out; have h3 := HG.out; show g2 < _; omega) (by have h3 := HG.out; show g2 ≠ g4; omega)).trans (cell_later hb K.out.2)⟩)
        (first
          | (refine step_append_ints _ rfl (.tmp 57) (.tmp 59) rfl w9.heap.size _ [] L.starts (by rfl) (.none (by first | exact Nat.le_refl _ | (simp; done)) (by simp only [heap_drew, heap_alloc_if, World.size_alloc] <;> simp)) _ _ L.starts.length rfl (by rfl) (HS9.out.below (by repeat (first | exact Below.refl _ _ | refine Below.drew ?_ | refine bmore ?_ _))) (by simp; omega) (by simp; try omega) ?_
             intro v1 w1x hown1 hg1 hat1
             have HA1 : Hid (OwnI w1x w9.heap.size v1 L.starts) := hid (by simpa using hown1)
             have HGB := hid hg1
             have hb : Below w9.heap.size w9 w1x := Below.grown (by repeat (first | exact Below.refl _ _ | refine Below.drew ?_ | refine bmore ?_ _)) hg1 (by simp; try omega) (by intro q hq; simp [Value.ownBlock] at hq; omega)
             clear hown1 hg1 hat1)
          | (refine step_append_ints _ rfl (.tmp 60) (.tmp 62) rfl w9.heap.size v1 L.starts [(st : Int)] (by rfl) (HA1.out.later (by repeat (first | exact Below.refl _ _ | refine Below.drew ?_ | refine bmore ?_ _))) _ _ 1 rfl (by rfl) (rd_box (by first | exact heapn _ _ _ rfl | exact box_kept HGB.out (by simp only [heap_drew, heap_alloc_if, World.size_alloc] <;> simp) (by simp [Value.ownBlock]))) (by simp; omega) (by have := hb.size; first | exact this | (simp; omega)) ?_
             intro v2 w2 hown2 hg2 hat2
             have hb : Below w9.heap.size w9 w2 := Below.grown (by repeat (first | exact hb | exact Below.refl _ _ | refine Below.drew ?_ | refine bmore ?_ _)) hg2 (by have := hb.size; first | exact this | (simp; omega)) (own_ge HA1.out)
             obtain ⟨a', c', g', hv', hcc, -, hrd, -, hnew⟩ := ownI_wr hown2
             rw [show (L.starts ++ [(st : Int)]).length = L.starts.length + 1 from by simp] at hv' hcc
             subst hv'
             have HRR := hid hrd
             have HCC := hid hcc
             have HNW := hid hnew
             have HBB := hid hb
             obtain ⟨r0, r1, r2, r3, r4, z0, z1, z2, z3, z4⟩ := box5 (keepBox hb HR9.out)
             clear hown2 hg2 hat2 hrd hcc hnew))
      all_goals
        go_wp2_with fail
        refine bodyPost_ret (v := .agg #[.int .i64 L.cols, .slice a' (L.starts.length + 1) c', .slice a10 pl c10, .int .i64 L.starts.length, .int .i64 0]) (by simp [results, Try.results25, go_sem, r0, r1, r2, r3, r4]) rfl ?_
        refine rins_end HG.out.2 HPN.out HB9.out HSZ9.out HBB.out HRP.out HRR.out HCC.out HC10.out HN10.out HNW.out ?_
        repeat (first | with_reducible exact But.refl _ _ | with_reducible refine But.drew ?_ | with_reducible refine But.set ?_ _ _)

theorem rInsert_any (L : Ld) (hf : Fit L) (row : List Int) (ar : Option Addr) (cr : Nat) (sa : Option Addr) (sc : Nat) (ca : Option Addr) (cc : Nat) (w : World) (hm : LdM w L sa sc ca cc) (hr : RdI w ar row) (hrl : row.length ≤ 1000) :
    Calls Try.prog 25 #[vL L sa sc ca cc, .slice ar row.length cr] w (LaysRet (insV L row) (insAt L row) (insE L row) w) := by
  by_cases hE : chkL L = 0
  · by_cases hq : (row.length : Int) = L.cols
    · cases ha : row.all rightB with
      | false => exact rins_arg L hf row ar cr sa sc ca cc w hm hr hrl hE hq ha
      | true =>
        have h6 := (chkL_ok hE).rows
        by_cases h60 : L.starts.length = 60
        · exact rins_lim L hf row ar cr sa sc ca cc w hm hr hrl hE hq ha h60
        · by_cases h30 : 30000 < (putL L.cells row (L.starts.length : Nat)).length
          · exact rins_full L hf row ar cr sa sc ca cc w hm hr hrl hE hq ha (by omega) h30
          · exact rins_ok L hf row ar cr sa sc ca cc w hm hr hrl hE hq ha (by omega) h30
    · exact rins_len L hf row ar cr sa sc ca cc w hm hrl hE hq
  · exact rins_bad L hf row ar cr sa sc ca cc w hm hE
end Go.Proofs.Ytliajnflmddnoaa
