/- The reference: step, rstep_1. -/
import Derived.Test.YtnjbahiaelehkaaB3
import Derived.Deep.CutBlock
import Derived.IntWalk
import Derived.StillTailTactics
namespace Go.Proofs.Ytnjbahiaelehkaa
open Go.RowKit

set_option maxRecDepth 100000 in
set_option maxHeartbeats 40000000 in
theorem rstep_1 (n : Nat) (hn1 : 1 ≤ n) (hn : n ≤ 12) (l : List AM) (ok : ∀ a, a ∈ l → Ok n 1000000 a) (done : List Sy) (okd : ∀ s, s ∈ done → okX n s.X = true ∧ okN s.N = true) (A B : Int) (a b : Option Addr) (cap cap' : Nat) (w : World)
    (hl : Rd w a l) (hd : RdY w n b done) (hll : l.length ≤ 1000000) (_ : done.length ≤ 1000000) :
    Calls Try.prog 111 #[.int .i64 n, .slice a l.length cap, .slice b done.length cap', .agg #[.int .i64 1, .int .i64 A, .int .i64 B]] w (StepPost n (stepS n l done ⟨1, A, B⟩) w) := by
  have HL := hid hl; clear hl
  have HD := hid hd; clear hd
  have HOK := hid ok; clear ok
  have HOD := hid okd; clear okd
  obtain ⟨i3, hi3, hz0, hz1, hz2⟩ := info_parts info3'
  go_enter Try.func111, Try.ntmps111
  go_upto_region 2 with (first | (refine wpList_make_row _ rfl _ _ _ rfl 3 i3 _ Try.underlying46 hi3 hz0 hz1 rfl .i64 .i64 n rfl rfl (by rw [hz2]; omega) (by omega) ?_))
  have HST := hid (St0.mk' n w 1 A B)
  go_cut [25] (fun s25 wx => s25 = .int .i64 1 ∧ St0 n w ⟨1, A, B⟩ wx)
  case first =>
    go_wp2_with fail
    go_meet
    exact ⟨rfl, HST.out⟩
  case rest =>
    obtain ⟨rfl, hst⟩ := hcut
    clear HST
    obtain ⟨W, hW⟩ : ∃ W, W = wc := ⟨_, rfl⟩
    subst hW
    have HS := hid hst
    have hbw := hst.b.size
    have hl10 := lt_of_heap hst.c10
    have hgl : w.heap.size + 1 + 1 < W.heap.size := by omega
    have k70 := cell_in hst.c7 (k := 0) rfl
    have k71 := cell_in hst.c7 (k := 1) rfl
    have k72 := cell_in hst.c7 (k := 2) rfl
    have kx0 := cell_in hst.c10 (k := 0) rfl
    have kx1 := cell_in hst.c10 (k := 1) rfl
    have fx1 := froz_in hst.c10 (k := 1)
    have k80 := cell_in hst.c8 (k := 0) rfl
    have k81 := cell_in hst.c8 (k := 1) rfl
    have f80 := froz_in hst.c8 (k := 0)
    have f81 := froz_in hst.c8 (k := 1)
    clear hst hi3 hz0 hz1 hz2 i3
    go_upto_block 0 with fail
    go_cut [] (fun wx => StCut n (stepR n l done ⟨1, A, B⟩) w (w.heap.size + 1) (w.heap.size + 1 + 1) (w.heap.size + 1 + 1 + 1) wx)
    case first =>
      by_cases hv : (0 ≤ A ∧ A ≤ (l.length : Int) - 1) ∧ B = 0
      · obtain ⟨⟨hA0, hA1⟩, rfl⟩ := hv
        obtain ⟨i, rfl⟩ : ∃ i : Nat, A = i := ⟨A.toNat, by omega⟩
        have hi : i < l.length := by omega
        obtain ⟨b2, off, ha, hlt2, q1, q2, q3, q4, q5⟩ := HL.out.below HS.out.b i hi
        subst ha
        have o := HOK.out l[i] (List.getElem_mem hi)
        have hge : l.getD i am0 = l[i] := by rw [List.getD_eq_getElem?_getD, List.getElem?_eq_getElem hi]; rfl
        obtain ⟨x, hx⟩ : ∃ x, x = l[i] := ⟨_, rfl⟩
        rw [← hx] at q1 q2 q3 q4 q5 o hge
        clear hx
        obtain ⟨A0, P0, B0, Q0, M0⟩ := x
        have o1 : 0 ≤ A0 := o.a0
        have o2 : A0 < n := o.an
        have o3 : 0 ≤ B0 ∧ B0 < n := by
          by_cases hq : Q0 = 0
          · have : B0 = 0 := o.b0 hq
            omega
          · exact ⟨(o.b1 hq).1, (o.b1 hq).2.1⟩
        obtain ⟨o3, o4⟩ := o3
        have o5 : -1 ≤ P0 ∧ P0 ≤ 1 := by have : P0 = 1 ∨ P0 = -1 := o.p; omega
        have o6 : -1 ≤ Q0 ∧ Q0 ≤ 1 := by have : Q0 = 0 ∨ Q0 = 1 ∨ Q0 = -1 := o.q; omega
        obtain ⟨iA, rfl⟩ : ∃ i : Nat, A0 = i := ⟨A0.toNat, by omega⟩
        obtain ⟨iB, rfl⟩ : ∃ i : Nat, B0 = i := ⟨B0.toNat, by omega⟩
        have hiA : iA < n := by omega
        have hiB : iB < n := by omega
        have HO := hid o
        have HGE := hid hge
        clear o hge
        have hin : inB (i : Int) 0 ((l.length : Int) - 1) = true := by simp [inB]; omega
        have hxA := HS.out.x.cell hiA
        have fxA := HS.out.x.frozen iA
        have hr : stepR n l done ⟨1, i, 0⟩ = some ⟨lnX ⟨iA, P0, iB, Q0, M0⟩, M0⟩ := by
          unfold stepR
          rw [if_pos rfl, if_pos ⟨⟨by simp, by show (i : Int) ≤ _; omega⟩, rfl⟩, Int.toNat_natCast, HGE.out]
        have HR := hid hr; clear hr
        go_upto_region 9 with (go_at_call 64; refine (in_any _ _ _ _).mono ?_; rintro e w' ⟨rfl, rfl⟩)
        go_cut [12] (fun s12 wx => s12 = .pointer (some ⟨W.heap.size, 0, none⟩) ∧ wx.heap[W.heap.size]? = some (.cells #[.int .i64 iA, .int .i64 P0, .int .i64 iB, .int .i64 Q0, .int .i64 M0] 24 (0, 0)) ∧ IB wx (w.heap.size + 1 + 1) n (fun j => if j = iA then P0 else 0) ∧ But (w.heap.size + 1 + 1) W wx)
        case first =>
          go_wp2_with fail
          go_meet
          refine ⟨rfl, ?_, ?_, ?_⟩
          · exact heapn _ _ _ (by simp)
          · exact (HS.out.x.set P0).below (bnew _ _)
          · exact ((But.refl _ _).set _ _).alloc _
        case rest =>
          obtain ⟨rfl, h12, hX1, hbut⟩ := hcut
          obtain ⟨V, hV⟩ : ∃ V, V = wc := ⟨_, rfl⟩
          subst hV
          obtain ⟨X1, hX1e⟩ : ∃ X1 : Nat → Int, X1 = fun j => if j = iA then P0 else 0 := ⟨_, rfl⟩
          rw [← hX1e] at hX1
          have HX1 := hid hX1
          have hx1b : -1 ≤ X1 iB ∧ X1 iB ≤ 1 := by rw [hX1e]; show -1 ≤ (if iB = iA then P0 else 0) ∧ (if iB = iA then P0 else 0) ≤ 1; split <;> omega
          have HXE := hid hX1e
          have HBUT := hid hbut
          have hvs := hbut.size
          have kx0 := but_cell hbut kx0 (by omega) (by omega)
          have kx1 := but_cell hbut kx1 (by omega) (by omega)
          have fx1 := but_froz hbut fx1 (by omega) (by omega)
          have k122 := cell_in h12 (k := 2) rfl
          have k123 := cell_in h12 (k := 3) rfl
          have k124 := cell_in h12 (k := 4) rfl
          have hl12 := lt_of_heap h12
          have H12 := hid h12
          have hxB := hX1.cell hiB
          have fxB := hX1.frozen iB
          have hgl' : w.heap.size + 1 + 1 < V.heap.size := by omega
          clear hX1 hX1e hbut h12 hxA fxA q1 q2 q3 q4 q5
          go_upto_region 10 with fail
          go_cut [] (fun wx => IB wx (w.heap.size + 1 + 1) n (fun j => if j = iB then X1 iB + Q0 else X1 j) ∧ But (w.heap.size + 1 + 1) V wx)
          case first =>
            have hxs : IntKind.i64.wrap (X1 iB + Q0) = X1 iB + Q0 := IntWalk.i64_in _ (by omega)
            go_still_tail 14, (by kernel_rfl)
            clear hxs
            change wpList _ _ _ _ _ V.drew
            have hxd : V.drew.cell? ⟨w.heap.size + 1 + 1, iB, none⟩ = some (.int .i64 (X1 iB)) := hxB
            have fxd : V.drew.frozen? ⟨w.heap.size + 1 + 1, iB, none⟩ = false := fxB
            go_wp2_with fail
            go_meet
            exact ⟨(HX1.out.below (bdrew _)).set _, (But.refl _ _).drew.set _ _⟩
          case rest =>
            obtain ⟨hX2, hbut2⟩ := hcut
            obtain ⟨U, hU⟩ : ∃ U, U = wc := ⟨_, rfl⟩
            subst hU
            have HX2 := hid hX2
            have HB2 := hid hbut2
            have hus := hbut2.size
            have kx0 := but_cell hbut2 kx0 (by omega) (by omega)
            have kx1 := but_cell hbut2 kx1 (by omega) (by omega)
            have fx1 := but_froz hbut2 fx1 (by omega) (by omega)
            have k124 := but_cell hbut2 k124 (by omega) (by omega)
            clear hX2 hbut2
            go_wp2_with fail
            go_meet
            have bUW : But (w.heap.size + 1 + 1) W U := HBUT.out.trans HB2.out
            have e10 := (bUW.block _ hl10 (by omega)).trans HS.out.c10
            have e8 := (bUW.block _ (lt_of_heap HS.out.c8) (by omega)).trans HS.out.c8
            refine ⟨_, _, HR.out, ?_, HX2.out.off (by omega), fun k hk => ?_, ?_, ?_⟩
            · rw [setCell_at' e10]
              rfl
            · have hx : ∀ j, X1 j = if j = iA then P0 else 0 := fun j => by rw [HXE.out]
              rw [hx, hx]
              show _ = (if (k : Int) = (iA : Int) then P0 else 0) + (if (k : Int) = (iB : Int) then Q0 else 0)
              by_cases e1 : k = iB
              · rw [if_pos e1, if_pos (show (k : Int) = iB by omega)]
                by_cases e2 : iB = iA
                · rw [if_pos e2, if_pos (by omega)]
                · rw [if_neg e2, if_neg (by omega)]
              · rw [if_neg e1, if_neg (show ¬(k : Int) = iB by omega)]
                by_cases e2 : k = iA
                · rw [if_pos e2, if_pos (by omega)]; omega
                · rw [if_neg e2, if_neg (by omega)]; rfl
            · exact (HS.out.b.trans (bUW.below (by omega) (by omega))).setCell (by show w.heap.size ≤ w.heap.size + 1 + 1 + 1; omega) _
            · rw [Below.heap_setCell _ _ _ _ (by show w.heap.size + 1 ≠ w.heap.size + 1 + 1 + 1; omega)]
              exact e8
      · have hr : stepR n l done ⟨1, A, B⟩ = none := by
          unfold stepR
          rw [if_pos rfl, if_neg hv]
        have hr := stepS_none hr
        have HR := hid hr; clear hr
        have hor : (inB A 0 ((l.length : Int) - 1) = true ∧ (B != 0) = true) ∨ inB A 0 ((l.length : Int) - 1) = false := by
          by_cases h : 0 ≤ A ∧ A ≤ (l.length : Int) - 1
          · exact .inl ⟨by simpa [inB] using h, by simpa using fun e => hv ⟨h, e⟩⟩
          · exact .inr (by simpa [inB] using h)
        rcases hor with ⟨h1, h2⟩ | h1
        all_goals
          go_wp2_with (go_at_call 64; refine (in_any _ _ _ _).mono ?_; rintro e w' ⟨rfl, rfl⟩)
          refine bodyPost_ret (v := .tuple #[.agg #[.slice none 0 0, .int .i64 0], .bool false]) (by simp [results, Try.results111, go_sem, k80, k81]) rfl ?_
          rw [HR.out]
          refine .no ?_ rfl
          exact (HS.out.b.setCell (by show w.heap.size ≤ w.heap.size + 1; omega) _).setCell (by show w.heap.size ≤ w.heap.size + 1; omega) _
    case rest =>
      obtain ⟨y, Y, hr, h10, hY, hyY, hb, h8⟩ := hcut
      have HR := hid hr; clear hr
      have HY := hid hY; clear hY
      have HYE := hid hyY; clear hyY
      have HB := hid hb
      have hbs := hb.size
      have H10 := hid h10
      have H8 := hid h8
      have kx0 := cell_in h10 (k := 0) rfl
      have kx1 := cell_in h10 (k := 1) rfl
      have k80 := cell_in h8 (k := 0) rfl
      have k81 := cell_in h8 (k := 1) rfl
      have f80 := froz_in h8 (k := 0)
      have f81 := froz_in h8 (k := 1)
      obtain ⟨yX, yN⟩ := y
      have kx1 : wc.cell? ⟨w.heap.size + 1 + 1 + 1, 1, none⟩ = some (.int .i64 yN) := kx1
      clear h10 h8 hb k70 k71 k72 fx1
      go_wp2_with (go_at_call 64; refine (in_any _ _ _ _).mono ?_; rintro e w' ⟨rfl, rfl⟩)
      go_loopg [18, 19] n (fun gh o i wr => ∃ k : Nat, k ≤ n ∧ gh = n - k ∧ i = .int .i64 k ∧ o = .bool (tailB yN Y k) ∧ wr = wc)
      case atStart => exact ⟨0, Nat.zero_le _, rfl, rfl, by unfold tailB; rw [show okX 0 Y = true by simp [okX], Bool.and_true]; rfl, rfl⟩
      case round =>
        obtain ⟨k, hk, rfl, rfl, rfl, rfl⟩ := hrel
        by_cases hlt : k < n
        · have hYk := HY.out.cell hlt
          have HK := hid (tailB_succ yN Y k)
          by_cases hp : tailB yN Y k = true
          · have HP := hid hp
            go_wp2_with (go_at_call 64; refine (in_any _ _ _ _).mono ?_; rintro e w' ⟨rfl, rfl⟩)
            clear hp
            go_roundg (n - (k + 1))
            case rel => exact ⟨k + 1, by omega, rfl, by go_num, by rw [HK.out, HP.out]; rfl, rfl⟩
            case measure => omega
          · have hp : tailB yN Y k = false := by simpa using hp
            have HP := hid hp
            go_wp2_with (go_at_call 64; refine (in_any _ _ _ _).mono ?_; rintro e w' ⟨rfl, rfl⟩)
            clear hp
            go_roundg (n - (k + 1))
            case rel => exact ⟨k + 1, by omega, rfl, by go_num, by rw [HK.out, HP.out]; rfl, rfl⟩
            case measure => omega
        · have hkn : k = n := by omega
          subst hkn
          go_wp2
          refine bodyPost_ret (v := .tuple #[.agg #[.slice (some ⟨w.heap.size + 1 + 1, 0, none⟩) k k, .int .i64 yN], .bool (tailB yN Y k)]) (by simp [results, Try.results111, go_sem, k80, k81]) rfl ?_
          refine StepPost.fin HR.out ?_ (by omega) ?_ HYE.out
          · exact (HB.out.setCell (by show w.heap.size ≤ w.heap.size + 1; omega) _).setCell (by show w.heap.size ≤ w.heap.size + 1; omega) _
          · exact (HY.out.off (by omega)).off (by omega)
end Go.Proofs.Ytnjbahiaelehkaa
