/- The reference: step, rstep_3. -/
import Derived.Test.YtnjbahiaelehkaaB3
import Derived.Deep.CutBlock
import Derived.IntWalk
import Derived.StillTailTactics
namespace Go.Proofs.Ytnjbahiaelehkaa
open Go.RowKit

set_option maxRecDepth 100000 in
set_option maxHeartbeats 40000000 in
theorem rstep_3 (n : Nat) (hn1 : 1 ≤ n) (hn : n ≤ 12) (l : List AM) (ok : ∀ a, a ∈ l → Ok n 1000000 a) (done : List Sy) (okd : ∀ s, s ∈ done → okX n s.X = true ∧ okN s.N = true) (A B : Int) (a b : Option Addr) (cap cap' : Nat) (w : World)
    (hl : Rd w a l) (hd : RdY w n b done) (_ : l.length ≤ 1000000) (hdl : done.length ≤ 1000000) :
    Calls Try.prog 111 #[.int .i64 n, .slice a l.length cap, .slice b done.length cap', .agg #[.int .i64 3, .int .i64 A, .int .i64 B]] w (StepPost n (stepS n l done ⟨3, A, B⟩) w) := by
  have HL := hid hl; clear hl
  have HD := hid hd; clear hd
  have HOK := hid ok; clear ok
  have HOD := hid okd; clear okd
  obtain ⟨i3, hi3, hz0, hz1, hz2⟩ := info_parts info3'
  go_enter Try.func111, Try.ntmps111
  go_upto_region 2 with (first | (refine wpList_make_row _ rfl _ _ _ rfl 3 i3 _ Try.underlying46 hi3 hz0 hz1 rfl .i64 .i64 n rfl rfl (by rw [hz2]; omega) (by omega) ?_))
  have HST := hid (St0.mk' n w 3 A B)
  go_cut [25] (fun s25 wx => s25 = .int .i64 3 ∧ St0 n w ⟨3, A, B⟩ wx)
  case first =>
    go_wp2_with fail
    go_meet
    exact ⟨rfl, HST.out⟩
  case rest =>
    obtain ⟨rfl, hst⟩ := hcut
    clear HST
    obtain ⟨W, hW⟩ : ∃ W, W = wc := ⟨_, rfl⟩
    subst hW
    have HS := hid hst
    have hbw := hst.b.size
    have hl10 := lt_of_heap hst.c10
    have hgl : w.heap.size + 1 + 1 < W.heap.size := by omega
    have k70 := cell_in hst.c7 (k := 0) rfl
    have k71 := cell_in hst.c7 (k := 1) rfl
    have k72 := cell_in hst.c7 (k := 2) rfl
    have kx0 := cell_in hst.c10 (k := 0) rfl
    have kx1 := cell_in hst.c10 (k := 1) rfl
    have fx1 := froz_in hst.c10 (k := 1)
    have k80 := cell_in hst.c8 (k := 0) rfl
    have k81 := cell_in hst.c8 (k := 1) rfl
    have f80 := froz_in hst.c8 (k := 0)
    have f81 := froz_in hst.c8 (k := 1)
    clear hst hi3 hz0 hz1 hz2 i3
    go_upto_block 0 with fail
    go_cut [] (fun wx => StCut n (stepR n l done ⟨3, A, B⟩) w (w.heap.size + 1) (w.heap.size + 1 + 1) (w.heap.size + 1 + 1 + 1) wx)
    case first =>
      by_cases hv : (0 ≤ A ∧ A ≤ (done.length : Int) - 1) ∧ B = 0
      · obtain ⟨⟨hA0, hA1⟩, rfl⟩ := hv
        obtain ⟨iA, rfl⟩ : ∃ i : Nat, A = i := ⟨A.toNat, by omega⟩
        have hiA : iA < done.length := by omega
        have hin1 : inB (iA : Int) 0 ((done.length : Int) - 1) = true := by simp [inB]; omega
        have hr : stepR n l done ⟨3, iA, 0⟩ = if evenX n done[iA].X = true then some ⟨fun k => done[iA].X k / 2, done[iA].N / 2⟩ else none := by
          unfold stepR
          rw [if_neg (show ¬((3 : Int) = 1) by decide), if_neg (show ¬((3 : Int) = 2) by decide), if_pos rfl, Int.toNat_natCast, getD_at hiA]
          by_cases he : evenX n done[iA].X = true
          · rw [if_pos ⟨⟨⟨by simp, by show (iA : Int) ≤ _; omega⟩, rfl⟩, he⟩, if_pos he]
          · rw [if_neg (fun h => he h.2), if_neg he]
        obtain ⟨oA1, oA2⟩ := HOD.out done[iA] (List.getElem_mem hiA)
        have hdA := HD.out iA hiA
        obtain ⟨sA, hsA⟩ : ∃ s, s = done[iA] := ⟨_, rfl⟩
        rw [← hsA] at hr hdA oA1 oA2
        clear hsA
        obtain ⟨XA, NA⟩ := sA
        obtain ⟨bA, offA, gA, capA, hb, hbA, p1, p2, p3⟩ := hdA
        subst hb
        have HR := hid hr; clear hr
        have HP1 := hid p1
        have HP3 := hid p3
        have nA := okN_in oA2
        obtain ⟨nA1, nA2⟩ := nA
        have HXA := hid oA1
        have HP2 := hid p2
        clear p1 p2 p3 oA1 oA2
        go_wp2_with (go_at_call 64; refine (in_any _ _ _ _).mono ?_; rintro e w' ⟨rfl, rfl⟩)
        go_loopg [17] n (fun gh i wr => ∃ k : Nat, k ≤ n ∧ gh = n - k ∧ i = .int .i64 k ∧ HalfIn n W (w.heap.size + 1 + 1) XA k wr)
        case atStart => exact ⟨0, Nat.zero_le _, rfl, rfl, HS.out.x.congr (fun k _ => by rw [if_neg (Nat.not_lt_zero k)]), But.refl _ _, fun j hj => absurd hj (Nat.not_lt_zero j)⟩
        case round =>
          obtain ⟨k, hk, rfl, rfl, hib, hbut, hev⟩ := hrel
          have HIB := hid hib
          have HBUT := hid hbut
          have HEV := hid hev
          have hbs := hbut.size
          have hWr := HS.out.b.trans (hbut.below (B := w.heap.size) (by omega) (by omega))
          have kx0 := but_cell hbut kx0 (by omega) (by omega)
          have k71 := but_cell hbut k71 (by omega) (by omega)
          have q1 := cell_later hWr HP1.out
          by_cases hlt : k < n
          · have q3 := (HP3.out.below hWr).cell hlt
            have xA := okX_in HXA.out hlt
            obtain ⟨xA1, xA2⟩ := xA
            have hxk := hib.cell hlt
            have fxk := hib.frozen k
            by_cases hodd : XA k % 2 = 0
            · have ht : (XA k).tmod 2 = 0 := Int.tmod_eq_zero_of_dvd (by omega)
              have htb : ((XA k).tmod 2 != 0) = false := by simp [ht]
              have hd2 : (XA k).tdiv 2 = XA k / 2 := Int.tdiv_eq_ediv_of_dvd (by omega)
              have HOD2 := hid hodd
              have HT2 := hid hd2
              have hd3 : IntKind.i64.wrap ((XA k).tdiv 2) = XA k / 2 := by rw [hd2]; exact IntWalk.i64_in _ (by omega)
              clear hib hbut hWr hev hodd ht
              go_upto_region 31 with fail
              go_still_tail 14, (by kernel_rfl)
              clear hd3
              change wpList _ _ _ _ _ wr.drew
              have hxd : ∃ x, wr.drew.cell? ⟨w.heap.size + 1 + 1, k, none⟩ = some x := ⟨_, hxk⟩
              have fxd : wr.drew.frozen? ⟨w.heap.size + 1 + 1, k, none⟩ = false := fxk
              go_wp2_with fail
              go_roundg (n - (k + 1))
              case rel =>
                refine ⟨k + 1, by omega, rfl, by go_num, ?_, HBUT.out.drew.set _ _, fun j hj => ?_⟩
                · refine ((HIB.out.below (bdrew _)).set _).congr fun j _ => ?_
                  show (if j = k then _ else if j < k then XA j / 2 else 0) = if j < k + 1 then XA j / 2 else 0
                  by_cases e : j = k
                  · subst e
                    rw [if_pos rfl, if_pos (by omega)]
                    try omega
                  · rw [if_neg e]
                    by_cases e2 : j < k
                    · rw [if_pos e2, if_pos (by omega)]
                    · rw [if_neg e2, if_neg (by omega)]
                · by_cases e : j < k
                  · exact HEV.out j e
                  · have : j = k := by omega
                    subst this
                    exact HOD2.out
              case measure => omega
            · have ht : (XA k).tmod 2 ≠ 0 := fun h => hodd (by have := Int.dvd_of_tmod_eq_zero h; omega)
              have htb : ((XA k).tmod 2 != 0) = true := by simp [ht]
              have hrn : stepS n l done ⟨3, iA, 0⟩ = none := by
                refine stepS_none ?_
                rw [HR.out, if_neg]
                intro h
                unfold evenX at h
                exact hodd (of_decide_eq_true h k hlt)
              have HRN := hid hrn; clear hrn
              have k80 := but_cell hbut k80 (by omega) (by omega)
              have k81 := but_cell hbut k81 (by omega) (by omega)
              have f80 := but_froz hbut f80 (by omega) (by omega)
              have f81 := but_froz hbut f81 (by omega) (by omega)
              have HWR := hid hWr
              clear hib hbut hWr hev hodd ht
              go_wp2_with fail
              refine bodyPost_ret (v := .tuple #[.agg #[.slice none 0 0, .int .i64 0], .bool false]) (by simp [results, Try.results111, go_sem, k80, k81]) rfl ?_
              rw [HRN.out]
              refine .no ?_ rfl
              exact (HWR.out.setCell (by show w.heap.size ≤ w.heap.size + 1; omega) _).setCell (by show w.heap.size ≤ w.heap.size + 1; omega) _
          · have hkn : k = n := by omega
            subst hkn
            have q2 := cell_later hWr HP2.out
            have kx1 := but_cell hbut kx1 (by omega) (by omega)
            have fx1 := but_froz hbut fx1 (by omega) (by omega)
            clear hib hbut hWr hev
            go_wp2_with (go_at_call 104; refine (rhalf_any _ (by omega) _).mono ?_; rintro e w' ⟨rfl, rfl⟩)
            go_meet
            have bUW := HBUT.out
            have e10 := (bUW.block _ hl10 (by omega)).trans HS.out.c10
            have e8 := (bUW.block _ (lt_of_heap HS.out.c8) (by omega)).trans HS.out.c8
            have hev : evenX k XA = true := by
              unfold evenX
              rw [decide_eq_true_eq]
              exact HEV.out
            refine ⟨_, _, HR.out.trans (if_pos hev), ?_, HIB.out.off (by omega), fun j hj => ?_, ?_, ?_⟩
            · rw [setCell_at' e10]
              rfl
            · show (if j < k then XA j / 2 else 0) = XA j / 2
              rw [if_pos hj]
            · exact (HS.out.b.trans (bUW.below (by omega) (by omega))).setCell (by show w.heap.size ≤ w.heap.size + 1 + 1 + 1; omega) _
            · rw [Below.heap_setCell _ _ _ _ (by show w.heap.size + 1 ≠ w.heap.size + 1 + 1 + 1; omega)]
              exact e8
      · have hr : stepR n l done ⟨3, A, B⟩ = none := by
          unfold stepR
          rw [if_neg (show ¬((3 : Int) = 1) by decide), if_neg (show ¬((3 : Int) = 2) by decide), if_pos rfl, if_neg (fun h => hv h.1)]
        have hr := stepS_none hr
        have HR := hid hr; clear hr
        have hor : (inB A 0 ((done.length : Int) - 1) = true ∧ (B != 0) = true) ∨ inB A 0 ((done.length : Int) - 1) = false := by
          by_cases h : 0 ≤ A ∧ A ≤ (done.length : Int) - 1
          · exact .inl ⟨by simpa [inB] using h, by simpa using fun e => hv ⟨h, e⟩⟩
          · exact .inr (by simpa [inB] using h)
        rcases hor with ⟨h1, h2⟩ | h1
        all_goals
          go_wp2_with (go_at_call 64; refine (in_any _ _ _ _).mono ?_; rintro e w' ⟨rfl, rfl⟩)
          refine bodyPost_ret (v := .tuple #[.agg #[.slice none 0 0, .int .i64 0], .bool false]) (by simp [results, Try.results111, go_sem, k80, k81]) rfl ?_
          rw [HR.out]
          refine .no ?_ rfl
          exact (HS.out.b.setCell (by show w.heap.size ≤ w.heap.size + 1; omega) _).setCell (by show w.heap.size ≤ w.heap.size + 1; omega) _
    case rest =>
      obtain ⟨y, Y, hr, h10, hY, hyY, hb, h8⟩ := hcut
      have HR := hid hr; clear hr
      have HY := hid hY; clear hY
      have HYE := hid hyY; clear hyY
      have HB := hid hb
      have hbs := hb.size
      have H10 := hid h10
      have H8 := hid h8
      have kx0 := cell_in h10 (k := 0) rfl
      have kx1 := cell_in h10 (k := 1) rfl
      have k80 := cell_in h8 (k := 0) rfl
      have k81 := cell_in h8 (k := 1) rfl
      have f80 := froz_in h8 (k := 0)
      have f81 := froz_in h8 (k := 1)
      obtain ⟨yX, yN⟩ := y
      have kx1 : wc.cell? ⟨w.heap.size + 1 + 1 + 1, 1, none⟩ = some (.int .i64 yN) := kx1
      clear h10 h8 hb k70 k71 k72 fx1
      go_wp2_with (go_at_call 64; refine (in_any _ _ _ _).mono ?_; rintro e w' ⟨rfl, rfl⟩)
      go_loopg [18, 19] n (fun gh o i wr => ∃ k : Nat, k ≤ n ∧ gh = n - k ∧ i = .int .i64 k ∧ o = .bool (tailB yN Y k) ∧ wr = wc)
      case atStart => exact ⟨0, Nat.zero_le _, rfl, rfl, by unfold tailB; rw [show okX 0 Y = true by simp [okX], Bool.and_true]; rfl, rfl⟩
      case round =>
        obtain ⟨k, hk, rfl, rfl, rfl, rfl⟩ := hrel
        by_cases hlt : k < n
        · have hYk := HY.out.cell hlt
          have HK := hid (tailB_succ yN Y k)
          by_cases hp : tailB yN Y k = true
          · have HP := hid hp
            go_wp2_with (go_at_call 64; refine (in_any _ _ _ _).mono ?_; rintro e w' ⟨rfl, rfl⟩)
            clear hp
            go_roundg (n - (k + 1))
            case rel => exact ⟨k + 1, by omega, rfl, by go_num, by rw [HK.out, HP.out]; rfl, rfl⟩
            case measure => omega
          · have hp : tailB yN Y k = false := by simpa using hp
            have HP := hid hp
            go_wp2_with (go_at_call 64; refine (in_any _ _ _ _).mono ?_; rintro e w' ⟨rfl, rfl⟩)
            clear hp
            go_roundg (n - (k + 1))
            case rel => exact ⟨k + 1, by omega, rfl, by go_num, by rw [HK.out, HP.out]; rfl, rfl⟩
            case measure => omega
        · have hkn : k = n := by omega
          subst hkn
          go_wp2
          refine bodyPost_ret (v := .tuple #[.agg #[.slice (some ⟨w.heap.size + 1 + 1, 0, none⟩) k k, .int .i64 yN], .bool (tailB yN Y k)]) (by simp [results, Try.results111, go_sem, k80, k81]) rfl ?_
          refine StepPost.fin HR.out ?_ (by omega) ?_ HYE.out
          · exact (HB.out.setCell (by show w.heap.size ≤ w.heap.size + 1; omega) _).setCell (by show w.heap.size ≤ w.heap.size + 1; omega) _
          · exact (HY.out.off (by omega)).off (by omega)
end Go.Proofs.Ytnjbahiaelehkaa
