/- The reference: step, rstep_2. -/
import Derived.Test.YtnjbahiaelehkaaB3
import Derived.Deep.CutBlock
import Derived.IntWalk
import Derived.StillTailTactics
namespace Go.Proofs.Ytnjbahiaelehkaa
open Go.RowKit

set_option maxRecDepth 100000 in
set_option maxHeartbeats 40000000 in
theorem rstep_2 (n : Nat) (hn1 : 1 ≤ n) (hn : n ≤ 12) (l : List AM) (ok : ∀ a, a ∈ l → Ok n 1000000 a) (done : List Sy) (okd : ∀ s, s ∈ done → okX n s.X = true ∧ okN s.N = true) (A B : Int) (a b : Option Addr) (cap cap' : Nat) (w : World)
    (hl : Rd w a l) (hd : RdY w n b done) (_ : l.length ≤ 1000000) (hdl : done.length ≤ 1000000) :
    Calls Try.prog 111 #[.int .i64 n, .slice a l.length cap, .slice b done.length cap', .agg #[.int .i64 2, .int .i64 A, .int .i64 B]] w (StepPost n (stepS n l done ⟨2, A, B⟩) w) := by
  have HL := hid hl; clear hl
  have HD := hid hd; clear hd
  have HOK := hid ok; clear ok
  have HOD := hid okd; clear okd
  obtain ⟨i3, hi3, hz0, hz1, hz2⟩ := info_parts info3'
  go_enter Try.func111, Try.ntmps111
  go_upto_region 2 with (first | (refine wpList_make_row _ rfl _ _ _ rfl 3 i3 _ Try.underlying46 hi3 hz0 hz1 rfl .i64 .i64 n rfl rfl (by rw [hz2]; omega) (by omega) ?_))
  have HST := hid (St0.mk' n w 2 A B)
  go_cut [25] (fun s25 wx => s25 = .int .i64 2 ∧ St0 n w ⟨2, A, B⟩ wx)
  case first =>
    go_wp2_with fail
    go_meet
    exact ⟨rfl, HST.out⟩
  case rest =>
    obtain ⟨rfl, hst⟩ := hcut
    clear HST
    obtain ⟨W, hW⟩ : ∃ W, W = wc := ⟨_, rfl⟩
    subst hW
    have HS := hid hst
    have hbw := hst.b.size
    have hl10 := lt_of_heap hst.c10
    have hgl : w.heap.size + 1 + 1 < W.heap.size := by omega
    have k70 := cell_in hst.c7 (k := 0) rfl
    have k71 := cell_in hst.c7 (k := 1) rfl
    have k72 := cell_in hst.c7 (k := 2) rfl
    have kx0 := cell_in hst.c10 (k := 0) rfl
    have kx1 := cell_in hst.c10 (k := 1) rfl
    have fx1 := froz_in hst.c10 (k := 1)
    have k80 := cell_in hst.c8 (k := 0) rfl
    have k81 := cell_in hst.c8 (k := 1) rfl
    have f80 := froz_in hst.c8 (k := 0)
    have f81 := froz_in hst.c8 (k := 1)
    clear hst hi3 hz0 hz1 hz2 i3
    go_upto_block 0 with fail
    go_cut [] (fun wx => StCut n (stepR n l done ⟨2, A, B⟩) w (w.heap.size + 1) (w.heap.size + 1 + 1) (w.heap.size + 1 + 1 + 1) wx)
    case first =>
      by_cases hv : (0 ≤ A ∧ A ≤ (done.length : Int) - 1) ∧ (0 ≤ B ∧ B ≤ (done.length : Int) - 1)
      · obtain ⟨⟨hA0, hA1⟩, hB0, hB1⟩ := hv
        obtain ⟨iA, rfl⟩ : ∃ i : Nat, A = i := ⟨A.toNat, by omega⟩
        obtain ⟨iB, rfl⟩ : ∃ i : Nat, B = i := ⟨B.toNat, by omega⟩
        have hiA : iA < done.length := by omega
        have hiB : iB < done.length := by omega
        have hin1 : inB (iA : Int) 0 ((done.length : Int) - 1) = true := by simp [inB]; omega
        have hin2 : inB (iB : Int) 0 ((done.length : Int) - 1) = true := by simp [inB]; omega
        have hr : stepR n l done ⟨2, iA, iB⟩ = some ⟨fun k => done[iA].X k + done[iB].X k, done[iA].N + done[iB].N⟩ := by
          unfold stepR
          rw [if_neg (show ¬((2 : Int) = 1) by decide), if_pos rfl, if_pos ⟨⟨by simp, by show (iA : Int) ≤ _; omega⟩, ⟨by simp, by show (iB : Int) ≤ _; omega⟩⟩, Int.toNat_natCast, Int.toNat_natCast, getD_at hiA, getD_at hiB]
        obtain ⟨oA1, oA2⟩ := HOD.out done[iA] (List.getElem_mem hiA)
        obtain ⟨oB1, oB2⟩ := HOD.out done[iB] (List.getElem_mem hiB)
        have hdA := HD.out iA hiA
        have hdB := HD.out iB hiB
        obtain ⟨sA, hsA⟩ : ∃ s, s = done[iA] := ⟨_, rfl⟩
        obtain ⟨sB, hsB⟩ : ∃ s, s = done[iB] := ⟨_, rfl⟩
        rw [← hsA] at hr hdA oA1 oA2
        rw [← hsB] at hr hdB oB1 oB2
        clear hsA hsB
        obtain ⟨XA, NA⟩ := sA
        obtain ⟨XB, NB⟩ := sB
        obtain ⟨bA, offA, gA, capA, hb, hbA, p1, p2, p3⟩ := hdA
        obtain ⟨bB, offB, gB, capB, hb', hbB, p4, p5, p6⟩ := hdB
        subst hb
        simp only [Option.some.injEq, Addr.mk.injEq, and_true] at hb'
        obtain ⟨rfl, rfl⟩ := hb'
        have HR := hid hr; clear hr
        have HP1 := hid p1
        have HP4 := hid p4
        have HP3 := hid p3
        have HP6 := hid p6
        have nA := okN_in oA2
        have nB := okN_in oB2
        obtain ⟨nA1, nA2⟩ := nA
        obtain ⟨nB1, nB2⟩ := nB
        have HXA := hid oA1
        have HXB := hid oB1
        have HP2 := hid p2
        have HP5 := hid p5
        clear p1 p2 p3 p4 p5 p6 oA1 oA2 oB1 oB2
        go_wp2_with (go_at_call 64; refine (in_any _ _ _ _).mono ?_; rintro e w' ⟨rfl, rfl⟩)
        go_loopg [15] n (fun gh i wr => ∃ k : Nat, k ≤ n ∧ gh = n - k ∧ i = .int .i64 k ∧ SumIn n W (w.heap.size + 1 + 1) (fun j => XA j + XB j) k wr)
        case atStart => exact ⟨0, Nat.zero_le _, rfl, rfl, HS.out.x.congr (fun k _ => by rw [if_neg (Nat.not_lt_zero k)]), But.refl _ _⟩
        case round =>
          obtain ⟨k, hk, rfl, rfl, hib, hbut⟩ := hrel
          have HIB := hid hib
          have HBUT := hid hbut
          have hbs := hbut.size
          have hWr := HS.out.b.trans (hbut.below (B := w.heap.size) (by omega) (by omega))
          have kx0 := but_cell hbut kx0 (by omega) (by omega)
          have k71 := but_cell hbut k71 (by omega) (by omega)
          have k72 := but_cell hbut k72 (by omega) (by omega)
          have q1 := cell_later hWr HP1.out
          have q4 := cell_later hWr HP4.out
          by_cases hlt : k < n
          · have q3 := (HP3.out.below hWr).cell hlt
            have q6 := (HP6.out.below hWr).cell hlt
            have xA := okX_in HXA.out hlt
            have xB := okX_in HXB.out hlt
            obtain ⟨xA1, xA2⟩ := xA
            obtain ⟨xB1, xB2⟩ := xB
            have hxk := hib.cell hlt
            have fxk := hib.frozen k
            clear hib hbut hWr
            have hxs : IntKind.i64.wrap (XA k + XB k) = XA k + XB k := IntWalk.i64_in _ (by omega)
            go_upto_region 20 with fail
            go_still_tail 23, (by kernel_rfl)
            clear hxs
            change wpList _ _ _ _ _ wr.drew
            have hxd : ∃ x, wr.drew.cell? ⟨w.heap.size + 1 + 1, k, none⟩ = some x := ⟨_, hxk⟩
            have fxd : wr.drew.frozen? ⟨w.heap.size + 1 + 1, k, none⟩ = false := fxk
            go_wp2_with fail
            go_roundg (n - (k + 1))
            case rel =>
              refine ⟨k + 1, by omega, rfl, by go_num, ?_, (HBUT.out.set _ _).drew⟩
              refine ((HIB.out.set _).below (bdrew _)).congr fun j _ => ?_
              show (if j = k then XA k + XB k else if j < k then XA j + XB j else 0) = if j < k + 1 then XA j + XB j else 0
              by_cases e : j = k
              · subst e
                rw [if_pos rfl, if_pos (by omega)]
              · rw [if_neg e]
                by_cases e2 : j < k
                · rw [if_pos e2, if_pos (by omega)]
                · rw [if_neg e2, if_neg (by omega)]
            case measure => omega
          · have hkn : k = n := by omega
            subst hkn
            have q2 := cell_later hWr HP2.out
            have q5 := cell_later hWr HP5.out
            have kx1 := but_cell hbut kx1 (by omega) (by omega)
            have fx1 := but_froz hbut fx1 (by omega) (by omega)
            clear hib hbut hWr
            have hxs : IntKind.i64.wrap (NA + NB) = NA + NB := IntWalk.i64_in _ (by omega)
            go_upto_region 21 with fail
            go_still_tail 14, (by kernel_rfl)
            clear hxs
            change wpList _ _ _ _ _ wr.drew
            have kxd : wr.drew.cell? ⟨w.heap.size + 1 + 1 + 1, 1, none⟩ = some (.int .i64 0) := kx1
            have fxd : wr.drew.frozen? ⟨w.heap.size + 1 + 1 + 1, 1, none⟩ = false := fx1
            go_wp2_with fail
            go_meet
            have bUW := HBUT.out
            have e10 := (bUW.block _ hl10 (by omega)).trans HS.out.c10
            have e8 := (bUW.block _ (lt_of_heap HS.out.c8) (by omega)).trans HS.out.c8
            refine ⟨_, _, HR.out, ?_, (HIB.out.off (by omega)).below (bdrew _), fun j hj => ?_, ?_, ?_⟩
            · exact setCell_at' e10 _
            · show (if j < k then XA j + XB j else 0) = XA j + XB j
              rw [if_pos hj]
            · exact ((HS.out.b.trans (bUW.below (by omega) (by omega))).setCell (by show w.heap.size ≤ w.heap.size + 1 + 1 + 1; omega) _).drew
            · exact (Below.heap_setCell _ _ _ _ (by show w.heap.size + 1 ≠ w.heap.size + 1 + 1 + 1; omega)).trans e8
      · have hr : stepR n l done ⟨2, A, B⟩ = none := by
          unfold stepR
          rw [if_neg (show ¬((2 : Int) = 1) by decide), if_pos rfl, if_neg hv]
        have hr := stepS_none hr
        have HR := hid hr; clear hr
        have hor : (inB A 0 ((done.length : Int) - 1) = true ∧ inB B 0 ((done.length : Int) - 1) = false) ∨ inB A 0 ((done.length : Int) - 1) = false := by
          by_cases h : 0 ≤ A ∧ A ≤ (done.length : Int) - 1
          · exact .inl ⟨by simpa [inB] using h, by simpa [inB] using fun e1 => (Int.not_le.1 fun e2 => hv ⟨h, e1, by omega⟩)⟩
          · exact .inr (by simpa [inB] using h)
        rcases hor with ⟨h1, h2⟩ | h1
        all_goals
          go_wp2_with (go_at_call 64; refine (in_any _ _ _ _).mono ?_; rintro e w' ⟨rfl, rfl⟩)
          refine bodyPost_ret (v := .tuple #[.agg #[.slice none 0 0, .int .i64 0], .bool false]) (by simp [results, Try.results111, go_sem, k80, k81]) rfl ?_
          rw [HR.out]
          refine .no ?_ rfl
          exact (HS.out.b.setCell (by show w.heap.size ≤ w.heap.size + 1; omega) _).setCell (by show w.heap.size ≤ w.heap.size + 1; omega) _
    case rest =>
      obtain ⟨y, Y, hr, h10, hY, hyY, hb, h8⟩ := hcut
      have HR := hid hr; clear hr
      have HY := hid hY; clear hY
      have HYE := hid hyY; clear hyY
      have HB := hid hb
      have hbs := hb.size
      have H10 := hid h10
      have H8 := hid h8
      have kx0 := cell_in h10 (k := 0) rfl
      have kx1 := cell_in h10 (k := 1) rfl
      have k80 := cell_in h8 (k := 0) rfl
      have k81 := cell_in h8 (k := 1) rfl
      have f80 := froz_in h8 (k := 0)
      have f81 := froz_in h8 (k := 1)
      obtain ⟨yX, yN⟩ := y
      have kx1 : wc.cell? ⟨w.heap.size + 1 + 1 + 1, 1, none⟩ = some (.int .i64 yN) := kx1
      clear h10 h8 hb k70 k71 k72 fx1
      go_wp2_with (go_at_call 64; refine (in_any _ _ _ _).mono ?_; rintro e w' ⟨rfl, rfl⟩)
      go_loopg [18, 19] n (fun gh o i wr => ∃ k : Nat, k ≤ n ∧ gh = n - k ∧ i = .int .i64 k ∧ o = .bool (tailB yN Y k) ∧ wr = wc)
      case atStart => exact ⟨0, Nat.zero_le _, rfl, rfl, by unfold tailB; rw [show okX 0 Y = true by simp [okX], Bool.and_true]; rfl, rfl⟩
      case round =>
        obtain ⟨k, hk, rfl, rfl, rfl, rfl⟩ := hrel
        by_cases hlt : k < n
        · have hYk := HY.out.cell hlt
          have HK := hid (tailB_succ yN Y k)
          by_cases hp : tailB yN Y k = true
          · have HP := hid hp
            go_wp2_with (go_at_call 64; refine (in_any _ _ _ _).mono ?_; rintro e w' ⟨rfl, rfl⟩)
            clear hp
            go_roundg (n - (k + 1))
            case rel => exact ⟨k + 1, by omega, rfl, by go_num, by rw [HK.out, HP.out]; rfl, rfl⟩
            case measure => omega
          · have hp : tailB yN Y k = false := by simpa using hp
            have HP := hid hp
            go_wp2_with (go_at_call 64; refine (in_any _ _ _ _).mono ?_; rintro e w' ⟨rfl, rfl⟩)
            clear hp
            go_roundg (n - (k + 1))
            case rel => exact ⟨k + 1, by omega, rfl, by go_num, by rw [HK.out, HP.out]; rfl, rfl⟩
            case measure => omega
        · have hkn : k = n := by omega
          subst hkn
          go_wp2
          refine bodyPost_ret (v := .tuple #[.agg #[.slice (some ⟨w.heap.size + 1 + 1, 0, none⟩) k k, .int .i64 yN], .bool (tailB yN Y k)]) (by simp [results, Try.results111, go_sem, k80, k81]) rfl ?_
          refine StepPost.fin HR.out ?_ (by omega) ?_ HYE.out
          · exact (HB.out.setCell (by show w.heap.size ≤ w.heap.size + 1; omega) _).setCell (by show w.heap.size ≤ w.heap.size + 1; omega) _
          · exact (HY.out.off (by omega)).off (by omega)
end Go.Proofs.Ytnjbahiaelehkaa
