/- Insert lays what it returns into blocks of its own. -/
import Derived.Test.YtliajnflmddnoaaG17
namespace Go.Proofs.Ytliajnflmddnoaa
open Go.RowKit

/-- What Insert returns where it has no error: rows laid over each other, in new blocks. -/
def LdRet3N (L : Ld) (x y : Int) (w : World) (e : Ending) (w' : World) : Prop := Below w.heap.size w w' ∧ ∃ sa sc ca cc, e = .returned (.tuple #[vL L sa sc ca cc, .int .i64 x, .int .i64 y]) ∧ LdM w' L sa sc ca cc ∧ NewA w.heap.size sa ∧ NewA w.heap.size ca
theorem insert_endN {L : Ld} {row : List Int} {st pl g4 c' c10 : Nat} {a' a10 : Option Addr} {w w9 w' W : World} (hg : g4 = w.heap.size + 1) (hpl : (putL L.cells row (L.starts.length : Nat)).length = pl) (hb0 : Below w.heap.size w w9) (hsz : w.heap.size + 2 ≤ w9.heap.size) (hb : Below w9.heap.size w9 w') (hrp : RdP w9 a10 (putL L.cells row (L.starts.length : Nat)))
    (hr : RdI w' a' (L.starts ++ [(st : Int)])) (hc : L.starts.length + 1 ≤ c') (hc10 : (putL L.cells row (L.starts.length : Nat)).length ≤ c10) (hn10 : NewA (w.heap.size + 2) a10) (hn : NewA w9.heap.size a') (hw : But g4 w' W) :
    LdRet3N ⟨L.cols, L.starts ++ [(st : Int)], putL L.cells row (L.starts.length : Nat)⟩ L.starts.length 0 w (.returned (.tuple #[.agg #[.int .i64 L.cols, .slice a' (L.starts.length + 1) c', .slice a10 pl c10], .int .i64 L.starts.length, .int .i64 0])) W := by
  have hw2 : Below w.heap.size w' W := hw.below (by omega) (by have := hb.size; omega)
  have e : (L.starts ++ [(st : Int)]).length = L.starts.length + 1 := by simp
  refine ⟨(hb0.step hb).trans hw2, a', c', a10, c10, ?_, ⟨hr.but hw fun b off e => ?_, (hrp.below hb).but hw fun b off e => ?_, by show (L.starts ++ [(st : Int)]).length ≤ c'; rw [e]; exact hc, hc10⟩, fun b off e => ?_, fun b off e => ?_⟩
  · unfold vL
    rw [e, hpl]
  · have := hn b off e
    omega
  · have := hn10 b off e
    omega
  · have := hn b off e
    omega
  · have := hn10 b off e
    omega

set_option maxRecDepth 100000 in
set_option maxHeartbeats 8000000 in
theorem insert_new (L : Ld) (hf : Fit L) (row : List Int) (ar : Option Addr) (cr : Nat) (sa : Option Addr) (sc : Nat) (ca : Option Addr) (cc : Nat) (w : World) (hm : LdM w L sa sc ca cc) (hr : RdI w ar row) (hrl : row.length ≤ 1000) (hE : chkL L = 0) (hq : (row.length : Int) = L.cols) (ha : row.all rightB = true) (h60 : L.starts.length < 60) (h30 : ¬ 30000 < (putL L.cells row (L.starts.length : Nat)).length) :
    Calls Try.prog 24 #[vL L sa sc ca cc, .slice ar row.length cr] w (LdRet3N (insV L row) (insAt L row) (insE L row) w) := by
  have HM := hid hm; clear hm
  have HR := hid hr; clear hr
  have HB0 := hid (bnew w (.cells #[.int .i64 L.cols, .slice sa L.starts.length sc, .slice ca L.cells.length cc] 44))
  have HX2 := hid (keepBox (bnew (w.alloc (.cells #[.int .i64 L.cols, .slice sa L.starts.length sc, .slice ca L.cells.length cc] 44)) (.cells #[.int .i64 0, .slice none 0 0, .slice none 0 0] 44)) (heapn w (.cells #[.int .i64 L.cols, .slice sa L.starts.length sc, .slice ca L.cells.length cc] 44) _ rfl))
  have HX4 := hid (heapn (w.alloc (.cells #[.int .i64 L.cols, .slice sa L.starts.length sc, .slice ca L.cells.length cc] 44)) (.cells #[.int .i64 0, .slice none 0 0, .slice none 0 0] 44) _ rfl)
  have HB0 := hid (HB0.out.step (bnew (w.alloc (.cells #[.int .i64 L.cols, .slice sa L.starts.length sc, .slice ca L.cells.length cc] 44)) (.cells #[.int .i64 0, .slice none 0 0, .slice none 0 0] 44)))
  have HC := hid (fun (w : World) (h : LdM w L sa sc ca cc) => (by have := checkL_any L hf sa sc ca cc w h; rw [hE] at this; exact this : Calls Try.prog 30 #[vL L sa sc ca cc] w (RetB (.int .i64 0) w)))
  have hsl := hf.s
  have hcl := hf.c
  have hz1 : (w.alloc (.cells #[.int .i64 L.cols, .slice sa L.starts.length sc, .slice ca L.cells.length cc] 44)).heap.size = w.heap.size + 1 := by simp
  have HSZ : Hid (w.heap.size + 2 ≤ ((w.alloc (.cells #[.int .i64 L.cols, .slice sa L.starts.length sc, .slice ca L.cells.length cc] 44)).alloc (.cells #[.int .i64 0, .slice none 0 0, .slice none 0 0] 44)).heap.size) := hid (by simp)
  rw [hz1] at HX4
  clear hf
  have h1 : insE L row = 0 := by unfold insE; rw [if_pos hE, if_pos ⟨hq, ha⟩, if_neg (by omega), if_neg h30]
  have h3 : insV L row = ⟨L.cols, L.starts ++ [(startN L.cells row : Int)], putL L.cells row (L.starts.length : Nat)⟩ := by unfold insV; rw [if_pos h1]
  have h4 : insAt L row = L.starts.length := by unfold insAt; rw [if_pos h1]
  rw [h3, h4, h1]
  have hR := chkL_ok hE
  have HPL := hid (fun (w : World) (h1 : RdP w ca L.cells) (h2 : RdI w ar row) => place_any L.cells hR.good ca cc row ar cr (L.starts.length : Nat) w h1 (by omega) HM.out.lc h2 (fun e he => List.all_eq_true.1 ha e he) hrl)
  obtain ⟨pl, hpl⟩ : ∃ n, n = (putL L.cells row (L.starts.length : Nat)).length := ⟨_, rfl⟩
  obtain ⟨st, hst⟩ : ∃ n, n = startN L.cells row := ⟨_, rfl⟩
  have HPN := hid hpl.symm
  rw [← hpl] at h30
  have HST := hid hst
  rw [← hst] at HPL
  have hd : ((row.length : Int) != L.cols) = false := by simp [hq]
  have HALL : Hid ((!row.all rightB) = false) := hid (by rw [ha]; rfl)
  have n60 : ¬ (60 : Int) ≤ (L.starts.length : Int) := by omega
  have n30 : ¬ (30000 : Int) < (pl : Int) := by omega
  have nsc : (L.starts.length : Int) ≤ (sc : Int) := by have := HM.out.ls; omega
  rw [← hst]
  clear h1 h3 h4 hE ha hq hR hpl hst
  go_enter Try.func24, Try.ntmps24
  go_wp2_with fail
  generalize (w.alloc (.cells #[.int .i64 L.cols, .slice sa L.starts.length sc, .slice ca L.cells.length cc] 44)).alloc (.cells #[.int .i64 0, .slice none 0 0, .slice none 0 0] 44) = w1 at *
  obtain ⟨g2, hg2⟩ : ∃ g, g = w.heap.size := ⟨_, rfl⟩
  obtain ⟨g4, hg4⟩ : ∃ g, g = w.heap.size + 1 := ⟨_, rfl⟩
  rw [← hg2] at HX2
  rw [← hg4] at HX4
  rw [← hg2]
  rw [hg2, ← hg4, ← hg2]
  have HG := hid (And.intro hg2 hg4)
  clear hg2 hg4 hz1
  have HB1 := hid (Below.refl w1.heap.size w1)
  obtain ⟨k0, k1, k2, _, _, _⟩ := box3 HX2.out
  go_upto_region 12 with (first
    | (go_at_call 30; refine (HC.out _ (HM.out.below HB0.out)).mono ?_; rintro e w2 ⟨rfl, hb⟩; skip; have HX2 := hid (keepBox hb HX2.out); have HX4 := hid (keepBox hb HX4.out); have HB0 := hid (HB0.out.step hb); have HB1 := hid (HB1.out.step hb); clear hb; obtain ⟨k0, k1, k2, _, _, _⟩ := box3 HX2.out; obtain ⟨r0, r1, r2, _, _, _⟩ := box3 HX4.out)
    | (go_at_call 57; refine (some58 row ar cr _ (HR.out.below HB0.out) (by omega)).mono ?_; rw [HALL.out]; rintro e w3 ⟨rfl, rfl⟩)
    | (go_at_call 55; (with_reducible refine (HPL.out _ (HM.out.rc.below HB0.out) (HR.out.below HB0.out)).mono ?_); rintro e w9 ⟨hb, a10, c10, rfl, hc10, hrp, hn10⟩; have HN10 := hid (show NewA (w.heap.size + 2) a10 from fun b off e => Nat.le_trans HSZ.out (Nat.le_trans HB1.out.size (hn10 b off e))); clear hn10; rw [HPN.out]; have HRP := hid hrp; have HC10 := hid hc10; have HX2 := hid (keepBox hb HX2.out); have HX4 := hid (keepBox hb HX4.out); have HB0 := hid (HB0.out.step hb); have HB5 := hid hb; clear hb hrp hc10; obtain ⟨k0, k1, k2, _, _, _⟩ := box3 HX2.out; obtain ⟨r0, r1, r2, z0, z1, z2⟩ := box3 HX4.out; have HS9 := hid (HM.out.rs.below HB0.out)))
  have K := hid (And.intro k0 (And.intro k1 (And.intro k2 (And.intro r0 (And.intro r1 (And.intro r2 (And.intro z0 (And.intro z1 z2))))))))
  have HSZ9 := hid (Nat.le_trans HSZ.out (HB1.out.step HB5.out).size)
  have a0 : ∀ o, (w9.alloc o).cell? ⟨g2, 0, none⟩ = some (.int .i64 L.cols) := fun o => cell_later (bnew _ _) k0
  have a1 : ∀ o, (w9.alloc o).cell? ⟨g2, 1, none⟩ = some (.slice sa L.starts.length sc) := fun o => cell_later (bnew _ _) k1
  have a2 : ∀ o, (w9.alloc o).cell? ⟨g2, 2, none⟩ = some (.slice ca L.cells.length cc) := fun o => cell_later (bnew _ _) k2
  go_region_law (refine step_append_full _ rfl (.tmp 51) (.tmp 53) rfl L.starts sa (by rfl) (HS9.out.below (by repeat (first | exact Below.refl _ _ | refine Below.drew ?_ | refine bmore ?_ _))) ⟨w9.heap.size, 0, none⟩ 1 st (by rfl) (by simp) (by omega) ?_
                 intro a' c' w' hcc hr hnw hb
                 have HNW := hid (show NewA w9.heap.size a' from fun b off e => Nat.le_trans (by first | exact Nat.le_refl _ | simp) (hnw b off e))
                 clear hnw
                 have HBB : Hid (Below w9.heap.size w9 w') := hid (Below.step (by repeat (first | exact Below.refl _ _ | refine Below.drew ?_ | refine bmore ?_ _)) hb)
                 have HCC := hid hcc
                 have HRR := hid hr
                 clear hb hcc hr
                 have k0 := cell_later HBB.out K.out.1
                 have k1 := cell_later HBB.out K.out.2.1
                 have k2 := cell_later HBB.out K.out.2.2.1
                 have HX9 := hid (keepBox HBB.out HX4.out)
                 obtain ⟨r0, r1, r2, z0, z1, z2⟩ := box3 HX9.out)
  all_goals
    go_wp2_with fail
    refine bodyPost_ret (v := .tuple #[.agg #[.int .i64 L.cols, .slice a' (L.starts.length + 1) c', .slice a10 pl c10], .int .i64 L.starts.length, .int .i64 0]) (by simp [results, Try.results24, go_sem, r0, r1, r2]) rfl ?_
    refine insert_endN HG.out.2 HPN.out HB0.out HSZ9.out HBB.out HRP.out HRR.out HCC.out HC10.out HN10.out HNW.out ?_
    repeat (first | exact But.refl _ _ | refine But.drew ?_ | refine But.set ?_ _ _)
end Go.Proofs.Ytliajnflmddnoaa
