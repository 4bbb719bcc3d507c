/- The reference of layer 8: Reads. The reference of layer 8: by. -/
import Derived.Test.YtgalekifgnecjaaGreatZ2
import Derived.Test.YtgalekifgnecjaaGreatN1
namespace Go.Proofs.YtgalekifgnecjaaGreat
open Go.RowKit

open Go.RowKit Go.Shelf
attribute [local go_sem] Oper.semAt_some
attribute [local irreducible] wpStill
set_option maxRecDepth 100000 in
set_option maxHeartbeats 8000000 in
theorem reads115 (i : InsN) (w : World) : Calls Tryz.prog 115 #[vI i] w (OwnRet (readsL i) w) := by
  have HF := hid (rowOf_any i.op)
  have HP := hid (part146 i)
  obtain ⟨-, hr0, hr1, -⟩ := row_form i.op
  obtain ⟨hs0, hs1, -⟩ := formL_shape i.op
  rw [← hr0] at hs0
  rw [← hr1] at hs1
  obtain ⟨RU, hru⟩ : ∃ RU : Nat → List Int, RU = rdU (formL i.op) i := ⟨_, rfl⟩
  have HR0 : Hid (RU 0 = []) := hid (by rw [hru]; rfl)
  have HR1 : Hid (RU 1 = readPart i (rowL i.op).r0) := hid (by rw [hru, hr0]; rfl)
  have HR2 : Hid (RU 2 = RU 1 ++ readPart i (rowL i.op).r1) := hid (by rw [hru, hr1]; rfl)
  have HPL : Hid (readsL i = RU 2) := hid (by rw [hru]; rfl)
  have HLN := hid (fun k => (by rw [hru]; exact rdU_len _ _ k : (RU k).length ≤ 2))
  have H0 := hid hs0
  have H1 := hid hs1
  clear hru hr0 hr1 hs0 hs1
  generalize rowL i.op = r at *
  obtain ⟨h0, h1, h2, wr', r0, r1, rs⟩ := r
  dsimp only at HR1 HR2 H0 H1
  have HX0 := hid (heapn w (.cells #[.int .i64 i.op, .int .i64 i.a, .int .i64 i.b, .int .i64 i.c] 85) _ rfl)
  have HB := hid (bnew w (.cells #[.int .i64 i.op, .int .i64 i.a, .int .i64 i.b, .int .i64 i.c] 85))
  go_enter Tryz.func115, Tryz.ntmps115
  go_upto_region 4 with (go_at_call 130; (with_reducible refine (HF.out _).mono ?_); rintro e w1 ⟨rfl, hb⟩; have HX1 := hid (heapn w1 (.cells (cR ⟨h0, h1, h2, wr', r0, r1, rs⟩) 169) _ rfl); replace HX0 := hid (keepBox (hb.step (bnew w1 (.cells (cR ⟨h0, h1, h2, wr', r0, r1, rs⟩) 169))) HX0.out); replace HB := hid (HB.out.step (hb.step (bnew w1 (.cells (cR ⟨h0, h1, h2, wr', r0, r1, rs⟩) 169)))); clear hb)
  obtain ⟨bx, hbx⟩ : ∃ bx, bx = w1.heap.size := ⟨_, rfl⟩
  rw [← hbx] at HX1
  rw [← hbx]
  obtain ⟨w2, hw2⟩ : ∃ w2, w2 = w1.alloc (.cells (cR ⟨h0, h1, h2, wr', r0, r1, rs⟩) 169) := ⟨_, rfl⟩
  rw [← hw2] at HX1 HX0 HB
  try rw [← hw2]
  clear hw2 hbx
  go_loopg [5, 6] 2 (fun gh s5 s6 wr => ∃ k : Nat, k ≤ 2 ∧ gh = 2 - k ∧ s6 = .int .i64 k ∧ Hid (OwnI wr w2.heap.size s5 (RU k) ∧ Below w2.heap.size w2 wr))
  case atStart => exact ⟨0, Nat.zero_le _, rfl, rfl, hid ⟨by rw [HR0.out]; exact World.ownsRow_nil _ _ _ _, Below.refl _ _⟩⟩
  case round =>
    obtain ⟨k, hk, rfl, rfl, HK⟩ := hrel
    have hlen := HLN.out k
    have hsz := HK.out.2.size
    have HXW := hid (keepBox HK.out.2 HX0.out)
    have HYW := hid (keepBox HK.out.2 HX1.out)
    obtain ⟨k0, k1, k2, k3⟩ := box4 HXW.out
    obtain ⟨-, z0, z1, -⟩ := box7r HYW.out
    have HBD := hid hsz
    by_cases hlt : k < 2
    · rcases (show k = 0 ∨ k = 1 by omega) with rfl | rfl
      · rw [show ((0 : Nat) : Int) = 0 from rfl]
        have HQ := hid H0.out
        have HE : Hid (RU (0 + 1) = RU 0 ++ readPart i r0) := hid (by rw [HR0.out]; exact HR1.out)
        have z := z0
        clear z0 z1
        rcases HQ.out with e | e | e
        · have HS : Hid (RU (0 + 1) = RU 0 ++ readPart i 0) := hid (by rw [HE.out, e])
          have zq : wr.cell? ⟨bx, 4, none⟩ = some (.int .i64 0) := by rw [z, e]
          have HSK : Hid (∀ W, Below w2.heap.size w2 W → W.cell? ⟨w.heap.size, 0, none⟩ = some (.int .i64 i.op) ∧ W.cell? ⟨w.heap.size, 1, none⟩ = some (.int .i64 i.a) ∧ W.cell? ⟨w.heap.size, 2, none⟩ = some (.int .i64 i.b) ∧ W.cell? ⟨w.heap.size, 3, none⟩ = some (.int .i64 i.c) ∧ W.cell? ⟨bx, 4, none⟩ = some (.int .i64 0)) := hid (fun W hW => by
            obtain ⟨a0, a1, a2, a3⟩ := box4 (keepBox hW HX0.out)
            obtain ⟨-, y0, y1, -⟩ := box7r (keepBox hW HX1.out)
            exact ⟨a0, a1, a2, a3, by rw [y0, e]⟩)
          clear e z
          have HT : Hid (RU (0 + 1) = RU 0) := hid (by rw [HS.out, readPart_no (.inl (by omega)), List.append_nil])
          go_upto_region 6 with fail
          go_quiet (fail)
          go_wp2_with fail
          go_roundg (2 - (0 + 1))
          case measure => omega
          case rel => exact ⟨0 + 1, by omega, rfl, rfl, hid ⟨by rw [HT.out]; exact HK.out.1.later (bdrewN (Below.refl _ _) _), bdrewN HK.out.2 _⟩⟩
        · have HS : Hid (RU (0 + 1) = RU 0 ++ readPart i 1) := hid (by rw [HE.out, e])
          have zq : wr.cell? ⟨bx, 4, none⟩ = some (.int .i64 1) := by rw [z, e]
          have HSK : Hid (∀ W, Below w2.heap.size w2 W → W.cell? ⟨w.heap.size, 0, none⟩ = some (.int .i64 i.op) ∧ W.cell? ⟨w.heap.size, 1, none⟩ = some (.int .i64 i.a) ∧ W.cell? ⟨w.heap.size, 2, none⟩ = some (.int .i64 i.b) ∧ W.cell? ⟨w.heap.size, 3, none⟩ = some (.int .i64 i.c) ∧ W.cell? ⟨bx, 4, none⟩ = some (.int .i64 1)) := hid (fun W hW => by
            obtain ⟨a0, a1, a2, a3⟩ := box4 (keepBox hW HX0.out)
            obtain ⟨-, y0, y1, -⟩ := box7r (keepBox hW HX1.out)
            exact ⟨a0, a1, a2, a3, by rw [y0, e]⟩)
          clear e z
          have q0 := fun d os => cell_regrown k0 d os
          have q1 := fun d os => cell_regrown k1 d os
          have q2 := fun d os => cell_regrown k2 d os
          have q3 := fun d os => cell_regrown k3 d os
          have q4 := fun d os => cell_regrown zq d os
          have HPQ : Hid (∀ w, Calls Tryz.prog 146 #[vI i, .int .i64 1] w (RetB (.int .i64 i.a) w)) := hid (fun w => HP.out 1 (by omega) w)
          go_upto_region 6 with fail
          refine wp_region_quiet_below (by kernel_rfl) (by kernel_rfl) ?_
          repeat (go_big_quiet_step ((go_at_call 146; exact Calls.regrown_of (HPQ.out _))))
          refine wpQuiet_nil ?_
          rintro _ ⟨p9, rfl⟩
          have hb9 := below_regrown wr p9.d p9.os
          generalize Go.Sort.grow (redrawn wr p9.d) p9.os = wq at *
          have HK2 : Hid (OwnI wq w2.heap.size u5 (RU 0) ∧ Below w2.heap.size w2 wq) := hid ⟨HK.out.1.later hb9, HK.out.2.step hb9⟩
          replace hsz := HK2.out.2.size
          obtain ⟨k0, k1, k2, k3⟩ := box4 (keepBox HK2.out.2 HX0.out)
          obtain ⟨-, z0, z1, -⟩ := box7r (keepBox HK2.out.2 HX1.out)
          replace zq := (cell_later hb9 zq)
          clear q0 q1 q2 q3 q4 z0 z1 HK hb9
          by_cases hn : i.a = -1
          · have d : (i.a != -1) = false := by rw [hn]; rfl
            have HT : Hid (RU (0 + 1) = RU 0) := hid (by rw [HS.out, readPart_no (i := i) (k := 1) (.inr hn), List.append_nil])
            clear hn
            go_wp2_with fail
            go_roundg (2 - (0 + 1))
            case measure => omega
            case rel => exact ⟨0 + 1, by omega, rfl, rfl, hid ⟨by rw [HT.out]; exact HK2.out.1, HK2.out.2⟩⟩
          · have d : (i.a != -1) = true := by simpa using hn
            have HT : Hid (RU (0 + 1) = RU 0 ++ [i.a]) := hid (by rw [HS.out, readPart_yes (i := i) (k := 1) (by omega) hn]; rfl)
            clear hn
            go_upto_region 7 with fail
            go_region_held_law (fun W => W.cell? ⟨w.heap.size, 0, none⟩ = some (.int .i64 i.op) ∧ W.cell? ⟨w.heap.size, 1, none⟩ = some (.int .i64 i.a) ∧ W.cell? ⟨w.heap.size, 2, none⟩ = some (.int .i64 i.b) ∧ W.cell? ⟨w.heap.size, 3, none⟩ = some (.int .i64 i.c) ∧ W.cell? ⟨bx, 4, none⟩ = some (.int .i64 1))
              (first | exact HSK.out _ HK2.out.2 | exact HSK.out _ (HK2.out.2.step (bdrew _)) | exact HSK.out _ HA5.out.2 | exact HSK.out _ (HA5.out.2.drew) | exact HSK.out _ (HK2.out.2.step (HB4.out.step (by repeat (first | exact Below.refl _ _ | refine Below.drew ?_ | refine balP ?_ _)))))
              (first
              | (refine step_append_i _ rfl (.tmp 31) (.tmp 38) rfl w2.heap.size u5 (RU 0) [i.a] (by rfl) (by exact HK2.out.1.later (HB4.out.step (by repeat (first | exact Below.refl _ _ | refine Below.drew ?_ | refine balP ?_ _)))) (some ⟨w4.heap.size, 0, none⟩) 1 1 rfl (by rfl) (by first | exact rd_one _ _ _ | exact (rd_one _ _ _).below (bdrew _)) (by simp; omega) (by have := HB4.out.size; simp; try omega) ?_
                 intro v5 w5 hown5 hg5 hat5
                 have HA5 : Hid (OwnI w5 w2.heap.size v5 (RU 0 ++ [i.a]) ∧ Below w2.heap.size w2 w5) := hid ⟨hown5, Below.grown (HK2.out.2.step (HB4.out.step (by repeat (first | exact Below.refl _ _ | refine Below.drew ?_ | refine balP ?_ _)))) hg5 (by have := HB4.out.size; simp; try omega) (own_ge HK2.out.1)⟩
                 clear hown5 hg5 hat5)
              | (go_at_call 146; refine (HPQ.out _).mono ?_; rintro e w4 ⟨rfl, hb4⟩; (have HB4 : Hid (Below wq.heap.size wq w4) := hid (by first | exact hb4 | exact (bdrew _).step hb4)); clear hb4))
            all_goals
              go_wp2_with fail
              go_roundg (2 - (0 + 1))
              case measure => omega
              case rel => exact ⟨0 + 1, by omega, rfl, rfl, hid ⟨by rw [HT.out]; exact HA5.out.1, HA5.out.2⟩⟩
        · have HS : Hid (RU (0 + 1) = RU 0 ++ readPart i 2) := hid (by rw [HE.out, e])
          have zq : wr.cell? ⟨bx, 4, none⟩ = some (.int .i64 2) := by rw [z, e]
          have HSK : Hid (∀ W, Below w2.heap.size w2 W → W.cell? ⟨w.heap.size, 0, none⟩ = some (.int .i64 i.op) ∧ W.cell? ⟨w.heap.size, 1, none⟩ = some (.int .i64 i.a) ∧ W.cell? ⟨w.heap.size, 2, none⟩ = some (.int .i64 i.b) ∧ W.cell? ⟨w.heap.size, 3, none⟩ = some (.int .i64 i.c) ∧ W.cell? ⟨bx, 4, none⟩ = some (.int .i64 2)) := hid (fun W hW => by
            obtain ⟨a0, a1, a2, a3⟩ := box4 (keepBox hW HX0.out)
            obtain ⟨-, y0, y1, -⟩ := box7r (keepBox hW HX1.out)
            exact ⟨a0, a1, a2, a3, by rw [y0, e]⟩)
          clear e z
          have q0 := fun d os => cell_regrown k0 d os
          have q1 := fun d os => cell_regrown k1 d os
          have q2 := fun d os => cell_regrown k2 d os
          have q3 := fun d os => cell_regrown k3 d os
          have q4 := fun d os => cell_regrown zq d os
          have HPQ : Hid (∀ w, Calls Tryz.prog 146 #[vI i, .int .i64 2] w (RetB (.int .i64 i.b) w)) := hid (fun w => HP.out 2 (by omega) w)
          go_upto_region 6 with fail
          refine wp_region_quiet_below (by kernel_rfl) (by kernel_rfl) ?_
          repeat (go_big_quiet_step ((go_at_call 146; exact Calls.regrown_of (HPQ.out _))))
          refine wpQuiet_nil ?_
          rintro _ ⟨p9, rfl⟩
          have hb9 := below_regrown wr p9.d p9.os
          generalize Go.Sort.grow (redrawn wr p9.d) p9.os = wq at *
          have HK2 : Hid (OwnI wq w2.heap.size u5 (RU 0) ∧ Below w2.heap.size w2 wq) := hid ⟨HK.out.1.later hb9, HK.out.2.step hb9⟩
          replace hsz := HK2.out.2.size
          obtain ⟨k0, k1, k2, k3⟩ := box4 (keepBox HK2.out.2 HX0.out)
          obtain ⟨-, z0, z1, -⟩ := box7r (keepBox HK2.out.2 HX1.out)
          replace zq := (cell_later hb9 zq)
          clear q0 q1 q2 q3 q4 z0 z1 HK hb9
          by_cases hn : i.b = -1
          · have d : (i.b != -1) = false := by rw [hn]; rfl
            have HT : Hid (RU (0 + 1) = RU 0) := hid (by rw [HS.out, readPart_no (i := i) (k := 2) (.inr hn), List.append_nil])
            clear hn
            go_wp2_with fail
            go_roundg (2 - (0 + 1))
            case measure => omega
            case rel => exact ⟨0 + 1, by omega, rfl, rfl, hid ⟨by rw [HT.out]; exact HK2.out.1, HK2.out.2⟩⟩
          · have d : (i.b != -1) = true := by simpa using hn
            have HT : Hid (RU (0 + 1) = RU 0 ++ [i.b]) := hid (by rw [HS.out, readPart_yes (i := i) (k := 2) (by omega) hn]; rfl)
            clear hn
            go_upto_region 7 with fail
            go_region_held_law (fun W => W.cell? ⟨w.heap.size, 0, none⟩ = some (.int .i64 i.op) ∧ W.cell? ⟨w.heap.size, 1, none⟩ = some (.int .i64 i.a) ∧ W.cell? ⟨w.heap.size, 2, none⟩ = some (.int .i64 i.b) ∧ W.cell? ⟨w.heap.size, 3, none⟩ = some (.int .i64 i.c) ∧ W.cell? ⟨bx, 4, none⟩ = some (.int .i64 2))
              (first | exact HSK.out _ HK2.out.2 | exact HSK.out _ (HK2.out.2.step (bdrew _)) | exact HSK.out _ HA5.out.2 | exact HSK.out _ (HA5.out.2.drew) | exact HSK.out _ (HK2.out.2.step (HB4.out.step (by repeat (first | exact Below.refl _ _ | refine Below.drew ?_ | refine balP ?_ _)))))
              (first
              | (refine step_append_i _ rfl (.tmp 31) (.tmp 38) rfl w2.heap.size u5 (RU 0) [i.b] (by rfl) (by exact HK2.out.1.later (HB4.out.step (by repeat (first | exact Below.refl _ _ | refine Below.drew ?_ | refine balP ?_ _)))) (some ⟨w4.heap.size, 0, none⟩) 1 1 rfl (by rfl) (by first | exact rd_one _ _ _ | exact (rd_one _ _ _).below (bdrew _)) (by simp; omega) (by have := HB4.out.size; simp; try omega) ?_
                 intro v5 w5 hown5 hg5 hat5
                 have HA5 : Hid (OwnI w5 w2.heap.size v5 (RU 0 ++ [i.b]) ∧ Below w2.heap.size w2 w5) := hid ⟨hown5, Below.grown (HK2.out.2.step (HB4.out.step (by repeat (first | exact Below.refl _ _ | refine Below.drew ?_ | refine balP ?_ _)))) hg5 (by have := HB4.out.size; simp; try omega) (own_ge HK2.out.1)⟩
                 clear hown5 hg5 hat5)
              | (go_at_call 146; refine (HPQ.out _).mono ?_; rintro e w4 ⟨rfl, hb4⟩; (have HB4 : Hid (Below wq.heap.size wq w4) := hid (by first | exact hb4 | exact (bdrew _).step hb4)); clear hb4))
            all_goals
              go_wp2_with fail
              go_roundg (2 - (0 + 1))
              case measure => omega
              case rel => exact ⟨0 + 1, by omega, rfl, rfl, hid ⟨by rw [HT.out]; exact HA5.out.1, HA5.out.2⟩⟩
      · rw [show ((1 : Nat) : Int) = 1 from rfl]
        have HQ := hid H1.out
        have HE : Hid (RU (1 + 1) = RU 1 ++ readPart i r1) := hid (by exact HR2.out)
        have z := z1
        clear z0 z1
        rcases HQ.out with e | e
        · have HS : Hid (RU (1 + 1) = RU 1 ++ readPart i 0) := hid (by rw [HE.out, e])
          have zq : wr.cell? ⟨bx, 5, none⟩ = some (.int .i64 0) := by rw [z, e]
          have HSK : Hid (∀ W, Below w2.heap.size w2 W → W.cell? ⟨w.heap.size, 0, none⟩ = some (.int .i64 i.op) ∧ W.cell? ⟨w.heap.size, 1, none⟩ = some (.int .i64 i.a) ∧ W.cell? ⟨w.heap.size, 2, none⟩ = some (.int .i64 i.b) ∧ W.cell? ⟨w.heap.size, 3, none⟩ = some (.int .i64 i.c) ∧ W.cell? ⟨bx, 5, none⟩ = some (.int .i64 0)) := hid (fun W hW => by
            obtain ⟨a0, a1, a2, a3⟩ := box4 (keepBox hW HX0.out)
            obtain ⟨-, y0, y1, -⟩ := box7r (keepBox hW HX1.out)
            exact ⟨a0, a1, a2, a3, by rw [y1, e]⟩)
          clear e z
          have HT : Hid (RU (1 + 1) = RU 1) := hid (by rw [HS.out, readPart_no (.inl (by omega)), List.append_nil])
          go_upto_region 6 with fail
          go_quiet (fail)
          go_wp2_with fail
          go_roundg (2 - (1 + 1))
          case measure => omega
          case rel => exact ⟨1 + 1, by omega, rfl, rfl, hid ⟨by rw [HT.out]; exact HK.out.1.later (bdrewN (Below.refl _ _) _), bdrewN HK.out.2 _⟩⟩
        · have HS : Hid (RU (1 + 1) = RU 1 ++ readPart i 3) := hid (by rw [HE.out, e])
          have zq : wr.cell? ⟨bx, 5, none⟩ = some (.int .i64 3) := by rw [z, e]
          have HSK : Hid (∀ W, Below w2.heap.size w2 W → W.cell? ⟨w.heap.size, 0, none⟩ = some (.int .i64 i.op) ∧ W.cell? ⟨w.heap.size, 1, none⟩ = some (.int .i64 i.a) ∧ W.cell? ⟨w.heap.size, 2, none⟩ = some (.int .i64 i.b) ∧ W.cell? ⟨w.heap.size, 3, none⟩ = some (.int .i64 i.c) ∧ W.cell? ⟨bx, 5, none⟩ = some (.int .i64 3)) := hid (fun W hW => by
            obtain ⟨a0, a1, a2, a3⟩ := box4 (keepBox hW HX0.out)
            obtain ⟨-, y0, y1, -⟩ := box7r (keepBox hW HX1.out)
            exact ⟨a0, a1, a2, a3, by rw [y1, e]⟩)
          clear e z
          have q0 := fun d os => cell_regrown k0 d os
          have q1 := fun d os => cell_regrown k1 d os
          have q2 := fun d os => cell_regrown k2 d os
          have q3 := fun d os => cell_regrown k3 d os
          have q4 := fun d os => cell_regrown zq d os
          have HPQ : Hid (∀ w, Calls Tryz.prog 146 #[vI i, .int .i64 3] w (RetB (.int .i64 i.c) w)) := hid (fun w => HP.out 3 (by omega) w)
          go_upto_region 6 with fail
          refine wp_region_quiet_below (by kernel_rfl) (by kernel_rfl) ?_
          repeat (go_big_quiet_step ((go_at_call 146; exact Calls.regrown_of (HPQ.out _))))
          refine wpQuiet_nil ?_
          rintro _ ⟨p9, rfl⟩
          have hb9 := below_regrown wr p9.d p9.os
          generalize Go.Sort.grow (redrawn wr p9.d) p9.os = wq at *
          have HK2 : Hid (OwnI wq w2.heap.size u5 (RU 1) ∧ Below w2.heap.size w2 wq) := hid ⟨HK.out.1.later hb9, HK.out.2.step hb9⟩
          replace hsz := HK2.out.2.size
          obtain ⟨k0, k1, k2, k3⟩ := box4 (keepBox HK2.out.2 HX0.out)
          obtain ⟨-, z0, z1, -⟩ := box7r (keepBox HK2.out.2 HX1.out)
          replace zq := (cell_later hb9 zq)
          clear q0 q1 q2 q3 q4 z0 z1 HK hb9
          by_cases hn : i.c = -1
          · have d : (i.c != -1) = false := by rw [hn]; rfl
            have HT : Hid (RU (1 + 1) = RU 1) := hid (by rw [HS.out, readPart_no (i := i) (k := 3) (.inr hn), List.append_nil])
            clear hn
            go_wp2_with fail
            go_roundg (2 - (1 + 1))
            case measure => omega
            case rel => exact ⟨1 + 1, by omega, rfl, rfl, hid ⟨by rw [HT.out]; exact HK2.out.1, HK2.out.2⟩⟩
          · have d : (i.c != -1) = true := by simpa using hn
            have HT : Hid (RU (1 + 1) = RU 1 ++ [i.c]) := hid (by rw [HS.out, readPart_yes (i := i) (k := 3) (by omega) hn]; rfl)
            clear hn
            go_upto_region 7 with fail
            go_region_held_law (fun W => W.cell? ⟨w.heap.size, 0, none⟩ = some (.int .i64 i.op) ∧ W.cell? ⟨w.heap.size, 1, none⟩ = some (.int .i64 i.a) ∧ W.cell? ⟨w.heap.size, 2, none⟩ = some (.int .i64 i.b) ∧ W.cell? ⟨w.heap.size, 3, none⟩ = some (.int .i64 i.c) ∧ W.cell? ⟨bx, 5, none⟩ = some (.int .i64 3))
              (first | exact HSK.out _ HK2.out.2 | exact HSK.out _ (HK2.out.2.step (bdrew _)) | exact HSK.out _ HA5.out.2 | exact HSK.out _ (HA5.out.2.drew) | exact HSK.out _ (HK2.out.2.step (HB4.out.step (by repeat (first | exact Below.refl _ _ | refine Below.drew ?_ | refine balP ?_ _)))))
              (first
              | (refine step_append_i _ rfl (.tmp 31) (.tmp 38) rfl w2.heap.size u5 (RU 1) [i.c] (by rfl) (by exact HK2.out.1.later (HB4.out.step (by repeat (first | exact Below.refl _ _ | refine Below.drew ?_ | refine balP ?_ _)))) (some ⟨w4.heap.size, 0, none⟩) 1 1 rfl (by rfl) (by first | exact rd_one _ _ _ | exact (rd_one _ _ _).below (bdrew _)) (by simp; omega) (by have := HB4.out.size; simp; try omega) ?_
                 intro v5 w5 hown5 hg5 hat5
                 have HA5 : Hid (OwnI w5 w2.heap.size v5 (RU 1 ++ [i.c]) ∧ Below w2.heap.size w2 w5) := hid ⟨hown5, Below.grown (HK2.out.2.step (HB4.out.step (by repeat (first | exact Below.refl _ _ | refine Below.drew ?_ | refine balP ?_ _)))) hg5 (by have := HB4.out.size; simp; try omega) (own_ge HK2.out.1)⟩
                 clear hown5 hg5 hat5)
              | (go_at_call 146; refine (HPQ.out _).mono ?_; rintro e w4 ⟨rfl, hb4⟩; (have HB4 : Hid (Below wq.heap.size wq w4) := hid (by first | exact hb4 | exact (bdrew _).step hb4)); clear hb4))
            all_goals
              go_wp2_with fail
              go_roundg (2 - (1 + 1))
              case measure => omega
              case rel => exact ⟨1 + 1, by omega, rfl, rfl, hid ⟨by rw [HT.out]; exact HA5.out.1, HA5.out.2⟩⟩
    · obtain rfl : k = 2 := by omega
      go_wp2_with fail
      go_ret
      exact ⟨HB.out.step HK.out.2, _, rfl, by rw [HPL.out]; exact HK.out.1.mono HB.out.size⟩

set_option maxRecDepth 100000 in
set_option maxHeartbeats 8000000 in
theorem by120 (u : UntN) (t : Nat) (ht : t < u.code.length) (hlen : u.code.length ≤ 600) (ca : Option Addr) (cc : Nat) (ga : Option Addr) (gc : Nat) (w : World) (hm : RdC w ca u.code) :
    Calls Tryz.prog 120 #[vU u ca cc ga gc, .int .i64 t] w (OwnRet (bySelf u t) w) := by
  have HBS := hid (bySelf_eq u t)
  have HB1 : Hid (bsOne u t = if (!(endsB (u.code.getD t ins0)) && decide (t + 1 < u.code.length)) = true then [((t : Int) + 1)] else []) := hid rfl
  rw [getD_in ht] at HBS HB1
  have HB0 := hid (bnew w (oU u ca cc ga gc))
  have HX0 := hid (heapn w (oU u ca cc ga gc) _ rfl)
  obtain ⟨bc, oc, hca, hlc2, c0, c1, c2, c3⟩ := hm.below HB0.out t ht
  subst hca
  have HEN := hid (fun w => ends117 u.code[t] w)
  obtain ⟨k0, k1, k2, k3, k4, k5, k6⟩ := box7 HX0.out
  have nt : (t : Int) < (u.code.length : Int) := by omega
  have nt1 : (t : Int) + 1 ≤ 600 := by omega
  have HM := hid hm; clear hm
  generalize u.code[t] = i at *
  go_enter Tryz.func120, Tryz.ntmps120
  go_upto_region 2 with fail
  obtain ⟨w1, hw1⟩ : ∃ w1, w1 = w.alloc (oU u (some ⟨bc, oc, none⟩) cc ga gc) := ⟨_, rfl⟩
  rw [← hw1] at HB0 HX0
  rw [← hw1]
  have HS1 : Hid (w1.heap.size = w.heap.size + 1) := hid (by rw [hw1]; simp)
  clear hw1 k0 k1 k2 k3 k4 k5 k6 c0 c1 c2 c3 hlc2
  obtain ⟨w2, hw2⟩ : ∃ w2, w2 = w1.alloc (.cells #[.int .i64 i.op, .int .i64 i.a, .int .i64 i.b, .int .i64 i.c] 85) := ⟨_, rfl⟩
  have HX2 : Hid (w2.heap[w.heap.size + 1]? = some (.cells #[.int .i64 i.op, .int .i64 i.a, .int .i64 i.b, .int .i64 i.c] 85)) := hid (by rw [hw2]; exact heapn _ _ _ HS1.out.symm)
  have HF2 : Hid (w2.heap[w.heap.size]? = some (oU u (some ⟨bc, oc, none⟩) cc ga gc)) := hid (by rw [hw2]; exact keepBox (bnew _ _) HX0.out)
  have HB2 : Hid (Below w.heap.size w w2) := hid (by rw [hw2]; exact HB0.out.step (bnew _ _))
  rw [← hw2]
  clear hw2 HX0 HB0
  obtain ⟨L1, hL1⟩ : ∃ L, L = bsOne u t := ⟨_, rfl⟩
  rw [← hL1] at HBS HB1
  clear hL1
  obtain ⟨q0, q1, q2, q3⟩ := box4 HX2.out
  have hsplit : (L1 = [] ∧ (endsB i = true ∨ (endsB i = false ∧ ¬ t + 1 < u.code.length))) ∨ (L1 = [((t : Int) + 1)] ∧ endsB i = false ∧ t + 1 < u.code.length) := by
    have h := HB1.out
    by_cases hl : t + 1 < u.code.length
    · cases he : endsB i with
      | true => rw [he] at h; exact .inl ⟨h, .inl rfl⟩
      | false => rw [he] at h; exact .inr ⟨by rw [h]; simp [hl], rfl, hl⟩
    · cases he : endsB i with
      | true => rw [he] at h; exact .inl ⟨h, .inl rfl⟩
      | false => rw [he] at h; exact .inl ⟨by rw [h]; simp [hl], .inr ⟨rfl, hl⟩⟩
  clear HB1
  have hl1 : L1.length ≤ 1 := by rcases hsplit with ⟨rfl, _⟩ | ⟨rfl, _⟩ <;> simp
  have HJ := hid (fun w => jump131 i w)
  rcases hsplit with ⟨hL, he | ⟨he, hl⟩⟩ | ⟨hL, he, hl⟩
  case' inl.inl =>
    rw [he] at HEN
    clear he
    go_upto_region 5 with (first
      | (go_at_call 117; (with_reducible refine (HEN.out _).mono ?_); rintro e wc ⟨rfl, hb⟩; have HW := hid hb; clear hb))
    have HO : Hid (OwnI wc (w.heap.size + 2) (.slice none 0 0) L1) := hid (by rw [hL]; exact World.ownsRow_nil _ _ _ _)
  case' inl.inr =>
    rw [he] at HEN
    clear he
    have hl2 : ¬ (t : Int) + 1 < (u.code.length : Int) := by omega
    go_upto_region 5 with (first
      | (go_at_call 117; (with_reducible refine (HEN.out _).mono ?_); rintro e wc ⟨rfl, hb⟩; obtain ⟨j0, j1, j2, j3, j4, j5, j6⟩ := box7 (keepBox hb HF2.out); have HW := hid hb; clear hb))
    clear j0 j1 j2 j3 j4 j5 j6
    have HO : Hid (OwnI wc (w.heap.size + 2) (.slice none 0 0) L1) := hid (by rw [hL]; exact World.ownsRow_nil _ _ _ _)
  case' inr =>
    rw [he] at HEN
    clear he
    have hl2 : (t : Int) + 1 < (u.code.length : Int) := by omega
    go_upto_region 5 with (first
      | (go_at_call 117; (with_reducible refine (HEN.out _).mono ?_); rintro e w3 ⟨rfl, hb⟩; obtain ⟨j0, j1, j2, j3, j4, j5, j6⟩ := box7 (keepBox hb HF2.out); have HB3 := hid hb; have hsz := lt_of_heap (keepBox hb HX2.out); clear hb)
      | (at_builtin; refine wpList_append_ints _ rfl _ _ rfl (w.heap.size + 2) _ [] [((t : Int) + 1)] rfl (show OwnI _ (w.heap.size + 2) (.slice none 0 0) [] from World.ownsRow_nil _ _ _ _) (some ⟨_, 0, none⟩) 1 rfl (rd_one _ _ _) (by simp) (by simp; omega) ?_; intro v' wc hown' hgrow hnil))
    clear j0 j1 j2 j3 j4 j5 j6
    have HO : Hid (OwnI wc (w.heap.size + 2) v' L1) := hid (by rw [hL]; exact hown')
    have HW : Hid (Below w2.heap.size w2 wc) := hid ((HB3.out.step (bnew _ _)).trans ⟨hgrow.os, hgrow.tape, hgrow.output, hgrow.size, fun k hk => hgrow.block k (by have := HB3.out.size; simp; omega) (show some k ≠ (Value.slice none 0 0).ownBlock from by simp [Value.ownBlock])⟩)
    clear hown' hgrow hnil
  all_goals
    have HBW := hid (HB2.out.step HW.out)
    obtain ⟨r0, r1, r2, r3⟩ := box4 (keepBox HW.out HX2.out)
    have HOB := hid (own_ge HO.out)
    have HSZ := hid (lt_of_heap (keepBox HW.out HX2.out))
    have HJV : Hid (jumpV i = .tuple #[.int .i64 ((placeO i).getD 0), .bool (placeO i).isSome]) := hid rfl
    obtain ⟨po, hpo⟩ : ∃ p, p = placeO i := ⟨_, rfl⟩
    rw [← hpo] at HJV HBS
    rw [HJV.out] at HJ
    clear hpo HEN HJV q0 q1 q2 q3
    cases po with
    | none =>
      go_wp2_with (go_at_call 131; (with_reducible refine (HJ.out _).mono ?_); rintro e w4 ⟨rfl, hb4⟩; have HB4 := hid hb4; clear hb4)
      go_ret
      exact ⟨HBW.out.step HB4.out, _, rfl, by rw [HBS.out]; exact OwnI.mono (OwnI.later HO.out HB4.out) (by omega)⟩
    | some x =>
      have HAD := hid (fun (wx : World) (hb : Below wc.heap.size wc wx) => add119 (w.heap.size + 2) _ L1 x wx (OwnI.later HO.out hb) (by omega) (by have h1 := HSZ.out; have h2 := hb.size; omega))
      go_wp2_with (first
        | (go_at_call 131; (with_reducible refine (HJ.out _).mono ?_); rintro e w4 ⟨rfl, hb4⟩; have HB4 := hid hb4; clear hb4)
        | (go_at_call 119; (with_reducible refine (HAD.out _ HB4.out).mono ?_); rintro e w9 ⟨v3, rfl, ho3, hg3, _⟩; have HO3 := hid ho3; have HG3 := hid hg3; clear ho3 hg3))
      go_ret
      refine ⟨(HBW.out.step HB4.out).grown HG3.out (by have := HBW.out.size; have := HB4.out.size; omega) (fun r e => by have := HOB.out r e; omega), _, rfl, by rw [HBS.out]; exact OwnI.mono HO3.out (by omega)⟩
end Go.Proofs.YtgalekifgnecjaaGreat
