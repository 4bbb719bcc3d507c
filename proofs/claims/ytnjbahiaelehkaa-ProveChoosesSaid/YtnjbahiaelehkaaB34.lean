/- The reference: step, rstep_o. -/
import Derived.Test.YtnjbahiaelehkaaB3
import Derived.Deep.CutBlock
import Derived.IntWalk
import Derived.StillTailTactics
namespace Go.Proofs.Ytnjbahiaelehkaa
open Go.RowKit

set_option maxRecDepth 100000 in
set_option maxHeartbeats 40000000 in
theorem rstep_o (n : Nat) (hn1 : 1 ≤ n) (hn : n ≤ 12) (l : List AM) (ok : ∀ a, a ∈ l → Ok n 1000000 a) (done : List Sy) (okd : ∀ s, s ∈ done → okX n s.X = true ∧ okN s.N = true) (K A B : Int) (a b : Option Addr) (cap cap' : Nat) (w : World)
    (hl : Rd w a l) (hd : RdY w n b done) (_ : l.length ≤ 1000000) (_ : done.length ≤ 1000000) (hK1 : ¬K = 1) (hK2 : ¬K = 2) (hK3 : ¬K = 3) :
    Calls Try.prog 111 #[.int .i64 n, .slice a l.length cap, .slice b done.length cap', .agg #[.int .i64 K, .int .i64 A, .int .i64 B]] w (StepPost n (stepS n l done ⟨K, A, B⟩) w) := by
  have HL := hid hl; clear hl
  have HD := hid hd; clear hd
  have HOK := hid ok; clear ok
  have HOD := hid okd; clear okd
  obtain ⟨i3, hi3, hz0, hz1, hz2⟩ := info_parts info3'
  have hk1 : (K == 1) = false := by simpa using hK1
  have hk2 : (K == 2) = false := by simpa using hK2
  have hk3 : (K == 3) = false := by simpa using hK3
  go_enter Try.func111, Try.ntmps111
  go_upto_region 2 with (first | (refine wpList_make_row _ rfl _ _ _ rfl 3 i3 _ Try.underlying46 hi3 hz0 hz1 rfl .i64 .i64 n rfl rfl (by rw [hz2]; omega) (by omega) ?_))
  have HST := hid (St0.mk' n w K A B)
  go_cut [25] (fun s25 wx => s25 = .int .i64 K ∧ St0 n w ⟨K, A, B⟩ wx)
  case first =>
    go_wp2_with fail
    go_meet
    exact ⟨rfl, HST.out⟩
  case rest =>
    obtain ⟨rfl, hst⟩ := hcut
    clear HST
    obtain ⟨W, hW⟩ : ∃ W, W = wc := ⟨_, rfl⟩
    subst hW
    have HS := hid hst
    have hbw := hst.b.size
    have hl10 := lt_of_heap hst.c10
    have hgl : w.heap.size + 1 + 1 < W.heap.size := by omega
    have k70 := cell_in hst.c7 (k := 0) rfl
    have k71 := cell_in hst.c7 (k := 1) rfl
    have k72 := cell_in hst.c7 (k := 2) rfl
    have kx0 := cell_in hst.c10 (k := 0) rfl
    have kx1 := cell_in hst.c10 (k := 1) rfl
    have fx1 := froz_in hst.c10 (k := 1)
    have k80 := cell_in hst.c8 (k := 0) rfl
    have k81 := cell_in hst.c8 (k := 1) rfl
    have f80 := froz_in hst.c8 (k := 0)
    have f81 := froz_in hst.c8 (k := 1)
    clear hst hi3 hz0 hz1 hz2 i3
    go_upto_block 0 with fail
    go_cut [] (fun wx => StCut n (stepR n l done ⟨K, A, B⟩) w (w.heap.size + 1) (w.heap.size + 1 + 1) (w.heap.size + 1 + 1 + 1) wx)
    case first =>
      have hr : stepR n l done ⟨K, A, B⟩ = none := by
        unfold stepR
        rw [if_neg hK1, if_neg hK2, if_neg hK3]
      have hr := stepS_none hr
      have HR := hid hr; clear hr
      clear hK1 hK2 hK3
      go_wp2_with fail
      refine bodyPost_ret (v := .tuple #[.agg #[.slice none 0 0, .int .i64 0], .bool false]) (by simp [results, Try.results111, go_sem, k80, k81]) rfl ?_
      rw [HR.out]
      refine .no ?_ rfl
      exact (HS.out.b.setCell (by show w.heap.size ≤ w.heap.size + 1; omega) _).setCell (by show w.heap.size ≤ w.heap.size + 1; omega) _
    case rest =>
      obtain ⟨y, Y, hr, h10, hY, hyY, hb, h8⟩ := hcut
      have HR := hid hr; clear hr
      have HY := hid hY; clear hY
      have HYE := hid hyY; clear hyY
      have HB := hid hb
      have hbs := hb.size
      have H10 := hid h10
      have H8 := hid h8
      have kx0 := cell_in h10 (k := 0) rfl
      have kx1 := cell_in h10 (k := 1) rfl
      have k80 := cell_in h8 (k := 0) rfl
      have k81 := cell_in h8 (k := 1) rfl
      have f80 := froz_in h8 (k := 0)
      have f81 := froz_in h8 (k := 1)
      obtain ⟨yX, yN⟩ := y
      have kx1 : wc.cell? ⟨w.heap.size + 1 + 1 + 1, 1, none⟩ = some (.int .i64 yN) := kx1
      clear h10 h8 hb k70 k71 k72 fx1
      go_wp2_with (go_at_call 64; refine (in_any _ _ _ _).mono ?_; rintro e w' ⟨rfl, rfl⟩)
      go_loopg [18, 19] n (fun gh o i wr => ∃ k : Nat, k ≤ n ∧ gh = n - k ∧ i = .int .i64 k ∧ o = .bool (tailB yN Y k) ∧ wr = wc)
      case atStart => exact ⟨0, Nat.zero_le _, rfl, rfl, by unfold tailB; rw [show okX 0 Y = true by simp [okX], Bool.and_true]; rfl, rfl⟩
      case round =>
        obtain ⟨k, hk, rfl, rfl, rfl, rfl⟩ := hrel
        by_cases hlt : k < n
        · have hYk := HY.out.cell hlt
          have HK := hid (tailB_succ yN Y k)
          by_cases hp : tailB yN Y k = true
          · have HP := hid hp
            go_wp2_with (go_at_call 64; refine (in_any _ _ _ _).mono ?_; rintro e w' ⟨rfl, rfl⟩)
            clear hp
            go_roundg (n - (k + 1))
            case rel => exact ⟨k + 1, by omega, rfl, by go_num, by rw [HK.out, HP.out]; rfl, rfl⟩
            case measure => omega
          · have hp : tailB yN Y k = false := by simpa using hp
            have HP := hid hp
            go_wp2_with (go_at_call 64; refine (in_any _ _ _ _).mono ?_; rintro e w' ⟨rfl, rfl⟩)
            clear hp
            go_roundg (n - (k + 1))
            case rel => exact ⟨k + 1, by omega, rfl, by go_num, by rw [HK.out, HP.out]; rfl, rfl⟩
            case measure => omega
        · have hkn : k = n := by omega
          subst hkn
          go_wp2
          refine bodyPost_ret (v := .tuple #[.agg #[.slice (some ⟨w.heap.size + 1 + 1, 0, none⟩) k k, .int .i64 yN], .bool (tailB yN Y k)]) (by simp [results, Try.results111, go_sem, k80, k81]) rfl ?_
          refine StepPost.fin HR.out ?_ (by omega) ?_ HYE.out
          · exact (HB.out.setCell (by show w.heap.size ≤ w.heap.size + 1; omega) _).setCell (by show w.heap.size ≤ w.heap.size + 1; omega) _
          · exact (HY.out.off (by omega)).off (by omega)
end Go.Proofs.Ytnjbahiaelehkaa
