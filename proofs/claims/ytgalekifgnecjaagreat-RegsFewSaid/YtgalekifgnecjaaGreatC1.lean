/- Reads and Writes of package core. -/
import Derived.Test.YtgalekifgnecjaaGreatV1
import Derived.Lib.QuietBelow
namespace Go.Proofs.YtgalekifgnecjaaGreat
open Go.RowKit

theorem form_shape : ∀ f, f ∈ formT → (f.r0 = 0 ∨ f.r0 = 1 ∨ f.r0 = 2) ∧ (f.r1 = 0 ∨ f.r1 = 3) ∧ (f.wr = 0 ∨ f.wr = 1) := by decide
theorem formL_shape (op : Int) : ((formL op).r0 = 0 ∨ (formL op).r0 = 1 ∨ (formL op).r0 = 2) ∧ ((formL op).r1 = 0 ∨ (formL op).r1 = 3) ∧ ((formL op).wr = 0 ∨ (formL op).wr = 1) := by
  unfold formL
  split
  · rw [List.getD_eq_getElem?_getD]
    cases h : formT[op.toNat]? with
    | none => exact form_shape form0 (by simp [formT])
    | some f => exact form_shape f (List.mem_of_getElem? h)
  · exact form_shape form0 (by simp [formT])
def rdU (f : FormN) (i : InsN) (k : Nat) : List Int := match k with | 0 => [] | 1 => readPart i f.r0 | _ => readPart i f.r0 ++ readPart i f.r1
theorem readPart_len (i : InsN) (k : Int) : (readPart i k).length ≤ 1 := by unfold readPart; split <;> simp
theorem rdU_len (f : FormN) (i : InsN) (k : Nat) : (rdU f i k).length ≤ 2 := by
  have h0 := readPart_len i f.r0
  have h1 := readPart_len i f.r1
  unfold rdU
  split <;> simp <;> omega
theorem readPart_no {i : InsN} {k : Int} (h : k ≤ 0 ∨ partN i (k - 1).toNat = -1) : readPart i k = [] := by
  unfold readPart
  rw [if_neg]
  intro ⟨h1, h2⟩
  rcases h with h | h
  · omega
  · exact h2 h
theorem readPart_yes {i : InsN} {k : Int} (h : 0 < k) (h2 : partN i (k - 1).toNat ≠ -1) : readPart i k = [partN i (k - 1).toNat] := if_pos ⟨h, h2⟩
theorem idx167_0 (x y z : Int) (w : World) : (Instr.index 167 (.agg #[.int .i64 x, .int .i64 y, .int .i64 z]) (.int .i64 0)).run Tryz.prog w = .ok (.int .i64 x) w := by kernel_rfl
theorem idx167_1 (x y z : Int) (w : World) : (Instr.index 167 (.agg #[.int .i64 x, .int .i64 y, .int .i64 z]) (.int .i64 1)).run Tryz.prog w = .ok (.int .i64 y) w := by kernel_rfl
theorem idx167_2 (x y z : Int) (w : World) : (Instr.index 167 (.agg #[.int .i64 x, .int .i64 y, .int .i64 z]) (.int .i64 2)).run Tryz.prog w = .ok (.int .i64 z) w := by kernel_rfl
theorem idx48_0 (x y : Int) (w : World) : (Instr.index 48 (.agg #[.int .i64 x, .int .i64 y]) (.int .i64 0)).run Tryz.prog w = .ok (.int .i64 x) w := by kernel_rfl
theorem idx48_1 (x y : Int) (w : World) : (Instr.index 48 (.agg #[.int .i64 x, .int .i64 y]) (.int .i64 1)).run Tryz.prog w = .ok (.int .i64 y) w := by kernel_rfl
set_option maxRecDepth 100000 in
set_option maxHeartbeats 4000000 in
theorem reads_any (i : InsN) (w : World) : Calls Tryz.prog 70 #[vI i] w (OwnRet (readsL i) w) := by
  have HF := hid (formOf_any i.op)
  have HPL : Hid (readsL i = rdU (formL i.op) i 2) := hid rfl
  have HPA := hid (fun w => parts_any i w)
  obtain ⟨hs0, hs1, -⟩ := formL_shape i.op
  have H0 := hid hs0; have H1 := hid hs1; clear hs0 hs1
  have HOK : Hid (opOk i.op = false → (formL i.op).r0 = 0 ∧ (formL i.op).r1 = 0) := hid (fun h => by unfold formL; rw [h]; exact ⟨rfl, rfl⟩)
  generalize formL i.op = f at *
  generalize opOk i.op = ok at *
  have HX0 := hid (idx48_0 f.r0 f.r1)
  have HX2 := hid (idx48_1 f.r0 f.r1)
  have hy0 := idx167_0 i.a i.b i.c
  have hy1 := idx167_1 i.a i.b i.c
  have hy2 := idx167_2 i.a i.b i.c
  have HX1 := hid (heapn w (.cells #[.int .i64 i.op, .int .i64 i.a, .int .i64 i.b, .int .i64 i.c] 85) _ rfl)
  have HB := hid (bnew w (.cells #[.int .i64 i.op, .int .i64 i.a, .int .i64 i.b, .int .i64 i.c] 85))
  go_enter Tryz.func70, Tryz.ntmps70
  go_upto_region 4 with (go_at_call 139; (with_reducible refine (HF.out _).mono ?_); rintro e w1 ⟨rfl, hb⟩; replace HX1 := hid (keepBox (hb.step (bnew w1 (.cells (cF f) 186))) HX1.out); replace HB := hid (HB.out.step (hb.step (bnew w1 (.cells (cF f) 186)))); clear hb)
  obtain ⟨w2, hw2⟩ : ∃ w2, w2 = w1.alloc (.cells (cF f) 186) := ⟨_, rfl⟩
  have e2 : w1.alloc (.cells #[.string ⟨f.name⟩, .int .i64 f.h0, .int .i64 f.h1, .int .i64 f.h2, .int .i64 f.wr, .int .i64 f.r0, .int .i64 f.r1, .bool f.rs, .bool f.en] 186) = w2 := hw2.symm
  rw [e2] at HX1 HB
  rw [e2]
  clear e2 hw2
  go_loopg [5, 16] 2 (fun gh s5 s16 wr => ∃ k : Nat, k ≤ 2 ∧ gh = 2 - k ∧ s16 = .int .i64 k ∧ Hid (OwnI wr w2.heap.size s5 (rdU f i k) ∧ Below w2.heap.size w2 wr))
  case atStart => exact ⟨0, Nat.zero_le _, rfl, rfl, hid ⟨World.ownsRow_nil _ _ _ _, Below.refl _ _⟩⟩
  case round =>
    obtain ⟨k, hk, rfl, rfl, HK⟩ := hrel
    have hlen := rdU_len f i k
    have hsz := HK.out.2.size
    obtain ⟨k0, k1, k2, k3⟩ := box4 (keepBox HK.out.2 HX1.out)
    by_cases hlt : k < 2
    · cases ok with
      | false =>
        obtain ⟨z0, z1⟩ := HOK.out rfl
        have HE : Hid (rdU f i (k + 1) = rdU f i k) := hid (by rcases (show k = 0 ∨ k = 1 by omega) with rfl | rfl <;> simp [rdU, readPart_no (k := f.r0) (i := i) (.inl (by omega)), readPart_no (k := f.r1) (i := i) (.inl (by omega))])
        have hx0 : ∀ w, (Instr.index 48 (.agg #[.int .i64 f.r0, .int .i64 f.r1]) (.int .i64 0)).run Tryz.prog w = .ok (.int .i64 0) w := fun w => by rw [HX0.out, z0]
        have hx1 : ∀ w, (Instr.index 48 (.agg #[.int .i64 f.r0, .int .i64 f.r1]) (.int .i64 1)).run Tryz.prog w = .ok (.int .i64 0) w := fun w => by rw [HX2.out, z1]
        clear z0 z1
        rcases (show k = 0 ∨ k = 1 by omega) with rfl | rfl
        · rw [show ((0 : Nat) : Int) = 0 from rfl]
          go_wp2_with fail
          go_roundg (2 - (0 + 1))
          case measure => omega
          case rel => exact ⟨0 + 1, by omega, rfl, rfl, hid ⟨by rw [HE.out]; exact HK.out.1, HK.out.2⟩⟩
        · rw [show ((1 : Nat) : Int) = 1 from rfl]
          go_wp2_with fail
          go_roundg (2 - (1 + 1))
          case measure => omega
          case rel => exact ⟨1 + 1, by omega, rfl, rfl, hid ⟨by rw [HE.out]; exact HK.out.1, HK.out.2⟩⟩
      | true =>
        clear HOK
        rcases (show k = 0 ∨ k = 1 by omega) with rfl | rfl
        · rw [show ((0 : Nat) : Int) = 0 from rfl]
          have HR := H0.out
          have HS : Hid (∀ q, f.r0 = q → rdU f i (0 + 1) = readPart i q) := hid (fun q e => by rw [← e]; rfl)
          have HXX : Hid (∀ q, f.r0 = q → ∀ w, (Instr.index 48 (.agg #[.int .i64 f.r0, .int .i64 f.r1]) (.int .i64 0)).run Tryz.prog w = .ok (.int .i64 q) w) := hid (fun q e w => by rw [HX0.out, e])
          rcases HR with e | e | e
          all_goals have hx0 := HXX.out _ e
          all_goals replace HS := hid (HS.out _ e)
          all_goals clear e HXX
          · have HE := hid (HS.out.trans (readPart_no (.inl (by omega))))
            clear HS
            go_wp2_with fail
            go_roundg (2 - (0 + 1))
            case measure => omega
            case rel => exact ⟨0 + 1, by omega, rfl, rfl, hid ⟨by rw [HE.out]; exact HK.out.1, HK.out.2⟩⟩
          · by_cases hn : i.a = -1
            · have d : (i.a != -1) = false := by rw [hn]; rfl
              have HE := hid (HS.out.trans (readPart_no (.inr hn)))
              clear HS hn
              go_wp2_with (go_at_call 140; (with_reducible refine (HPA.out _).mono ?_); rintro e w4 ⟨rfl, hb4⟩; have HB4 := hid hb4; clear hb4)
              go_roundg (2 - (0 + 1))
              case measure => omega
              case rel => exact ⟨0 + 1, by omega, rfl, rfl, hid ⟨by rw [HE.out]; exact HK.out.1.later HB4.out, HK.out.2.step HB4.out⟩⟩
            · have d : (i.a != -1) = true := by simpa using hn
              have HE := hid (HS.out.trans (readPart_yes (by omega) hn))
              clear HS hn
              go_wp2_with (first
                | (go_at_call 140; (with_reducible refine (HPA.out _).mono ?_); rintro e w4 ⟨rfl, hb4⟩; have HB4 := hid hb4; have hsz4 := hb4.size; replace HK := hid (And.intro (HK.out.1.later hb4) (HK.out.2.step hb4)); obtain ⟨k0, k1, k2, k3⟩ := box4 (keepBox HK.out.2 HX1.out); have hsz := HK.out.2.size; clear hb4)
                | (at_builtin; refine wpList_append_ints _ rfl _ _ rfl w2.heap.size _ _ [i.a] rfl (OwnI.later HK.out.1 (bnew _ _)) (some ⟨_, 0, none⟩) 1 rfl (rd_one _ _ _) (by simp [rdU]) (by simp; omega) ?_; intro v' w5 hown' hgrow hnil))
              go_roundg (2 - (0 + 1))
              case measure => omega
              case rel => exact ⟨0 + 1, by omega, rfl, rfl, hid ⟨by rw [HE.out]; exact hown', ((HK.out.2).alloc (by omega) _).grown hgrow (by simp; omega) (own_ge HK.out.1)⟩⟩
          · by_cases hn : i.b = -1
            · have d : (i.b != -1) = false := by rw [hn]; rfl
              have HE := hid (HS.out.trans (readPart_no (.inr hn)))
              clear HS hn
              go_wp2_with (go_at_call 140; (with_reducible refine (HPA.out _).mono ?_); rintro e w4 ⟨rfl, hb4⟩; have HB4 := hid hb4; clear hb4)
              go_roundg (2 - (0 + 1))
              case measure => omega
              case rel => exact ⟨0 + 1, by omega, rfl, rfl, hid ⟨by rw [HE.out]; exact HK.out.1.later HB4.out, HK.out.2.step HB4.out⟩⟩
            · have d : (i.b != -1) = true := by simpa using hn
              have HE := hid (HS.out.trans (readPart_yes (by omega) hn))
              clear HS hn
              go_wp2_with (first
                | (go_at_call 140; (with_reducible refine (HPA.out _).mono ?_); rintro e w4 ⟨rfl, hb4⟩; have HB4 := hid hb4; have hsz4 := hb4.size; replace HK := hid (And.intro (HK.out.1.later hb4) (HK.out.2.step hb4)); obtain ⟨k0, k1, k2, k3⟩ := box4 (keepBox HK.out.2 HX1.out); have hsz := HK.out.2.size; clear hb4)
                | (at_builtin; refine wpList_append_ints _ rfl _ _ rfl w2.heap.size _ _ [i.b] rfl (OwnI.later HK.out.1 (bnew _ _)) (some ⟨_, 0, none⟩) 1 rfl (rd_one _ _ _) (by simp [rdU]) (by simp; omega) ?_; intro v' w5 hown' hgrow hnil))
              go_roundg (2 - (0 + 1))
              case measure => omega
              case rel => exact ⟨0 + 1, by omega, rfl, rfl, hid ⟨by rw [HE.out]; exact hown', ((HK.out.2).alloc (by omega) _).grown hgrow (by simp; omega) (own_ge HK.out.1)⟩⟩
        · rw [show ((1 : Nat) : Int) = 1 from rfl]
          have HR := H1.out
          have HS : Hid (∀ q, f.r1 = q → rdU f i (1 + 1) = rdU f i 1 ++ readPart i q) := hid (fun q e => by rw [← e]; rfl)
          have HXX : Hid (∀ q, f.r1 = q → ∀ w, (Instr.index 48 (.agg #[.int .i64 f.r0, .int .i64 f.r1]) (.int .i64 1)).run Tryz.prog w = .ok (.int .i64 q) w) := hid (fun q e w => by rw [HX2.out, e])
          have hl1 : (rdU f i 1).length ≤ 1 := readPart_len i f.r0
          rcases HR with e | e
          all_goals have hx1 := HXX.out _ e
          all_goals replace HS := hid (HS.out _ e)
          all_goals clear e HXX
          · have HE : Hid (rdU f i (1 + 1) = rdU f i 1) := hid (by rw [HS.out, readPart_no (i := i) (k := 0) (.inl (by omega)), List.append_nil])
            clear HS
            go_wp2_with fail
            go_roundg (2 - (1 + 1))
            case measure => omega
            case rel => exact ⟨1 + 1, by omega, rfl, rfl, hid ⟨by rw [HE.out]; exact HK.out.1, HK.out.2⟩⟩
          · by_cases hn : i.c = -1
            · have d : (i.c != -1) = false := by rw [hn]; rfl
              have HE : Hid (rdU f i (1 + 1) = rdU f i 1) := hid (by rw [HS.out, readPart_no (i := i) (k := 3) (.inr hn), List.append_nil])
              clear HS hn
              go_wp2_with (go_at_call 140; (with_reducible refine (HPA.out _).mono ?_); rintro e w4 ⟨rfl, hb4⟩; have HB4 := hid hb4; clear hb4)
              go_roundg (2 - (1 + 1))
              case measure => omega
              case rel => exact ⟨1 + 1, by omega, rfl, rfl, hid ⟨by rw [HE.out]; exact HK.out.1.later HB4.out, HK.out.2.step HB4.out⟩⟩
            · have d : (i.c != -1) = true := by simpa using hn
              have HE : Hid (rdU f i (1 + 1) = rdU f i 1 ++ [i.c]) := hid (by rw [HS.out, readPart_yes (i := i) (k := 3) (by omega) hn]; rfl)
              clear HS hn
              go_wp2_with (first
                | (go_at_call 140; (with_reducible refine (HPA.out _).mono ?_); rintro e w4 ⟨rfl, hb4⟩; have HB4 := hid hb4; have hsz4 := hb4.size; replace HK := hid (And.intro (HK.out.1.later hb4) (HK.out.2.step hb4)); obtain ⟨k0, k1, k2, k3⟩ := box4 (keepBox HK.out.2 HX1.out); have hsz := HK.out.2.size; clear hb4)
                | (at_builtin; refine wpList_append_ints _ rfl _ _ rfl w2.heap.size _ _ [i.c] rfl (OwnI.later HK.out.1 (bnew _ _)) (some ⟨_, 0, none⟩) 1 rfl (rd_one _ _ _) (by simp; omega) (by simp; omega) ?_; intro v' w5 hown' hgrow hnil))
              go_roundg (2 - (1 + 1))
              case measure => omega
              case rel => exact ⟨1 + 1, by omega, rfl, rfl, hid ⟨by rw [HE.out]; exact hown', ((HK.out.2).alloc (by omega) _).grown hgrow (by simp; omega) (own_ge HK.out.1)⟩⟩
    · obtain rfl : k = 2 := by omega
      go_wp2_with fail
      go_ret
      exact ⟨HB.out.step HK.out.2, _, rfl, by rw [HPL.out]; exact HK.out.1.mono HB.out.size⟩

set_option maxRecDepth 100000 in
set_option maxHeartbeats 2000000 in
theorem writes_any (i : InsN) (w : World) : Calls Tryz.prog 71 #[vI i] w (RetB (.int .i64 (writesI i)) w) := by
  have HF := hid (formOf_any i.op)
  have HPL : Hid (writesI i = if (formL i.op).wr = 0 then -1 else partN i ((formL i.op).wr - 1).toNat) := hid rfl
  have HPA := hid (fun w => parts_any i w)
  obtain ⟨-, -, hs⟩ := formL_shape i.op
  have HS := hid hs; clear hs
  generalize writesI i = r at *
  generalize formL i.op = f at *
  generalize opOk i.op = ok at *
  have hy0 := idx167_0 i.a i.b i.c
  have HX1 := hid (heapn w (.cells #[.int .i64 i.op, .int .i64 i.a, .int .i64 i.b, .int .i64 i.c] 85) _ rfl)
  have HB := hid (bnew w (.cells #[.int .i64 i.op, .int .i64 i.a, .int .i64 i.b, .int .i64 i.c] 85))
  rcases HS.out with e | e
  · have d : (f.wr == 0) = true := by rw [e]; rfl
    have HE := hid (HPL.out.trans (if_pos e))
    clear e
    go_enter Tryz.func71, Tryz.ntmps71
    go_wp2_with (go_at_call 139; (with_reducible refine (HF.out _).mono ?_); rintro e w1 ⟨rfl, hb⟩; replace HB := hid (HB.out.step (hb.step (bnew w1 (.cells (cF f) 186)))); clear hb)
    go_ret
    exact ⟨ret_int HE.out.symm, HB.out⟩
  · have d : (f.wr == 0) = false := by rw [e]; rfl
    have HE : Hid (r = i.a) := hid (by rw [HPL.out, e]; rfl)
    have HW := hid e
    clear e
    go_enter Tryz.func71, Tryz.ntmps71
    go_wp2_with (go_at_call 139; (with_reducible refine (HF.out _).mono ?_); rintro e w1 ⟨rfl, hb⟩; replace HX1 := hid (keepBox (hb.step (bnew w1 (.cells (cF f) 186))) HX1.out); replace HB := hid (HB.out.step (hb.step (bnew w1 (.cells (cF f) 186)))); have HX2 := hid (heapn w1 (.cells (cF f) 186) _ rfl); clear hb)
    obtain ⟨w2, hw2⟩ : ∃ w2, w2 = w1.alloc (.cells (cF f) 186) := ⟨_, rfl⟩
    have e2 : w1.alloc (.cells #[.string ⟨f.name⟩, .int .i64 f.h0, .int .i64 f.h1, .int .i64 f.h2, .int .i64 f.wr, .int .i64 f.r0, .int .i64 f.r1, .bool f.rs, .bool f.en] 186) = w2 := hw2.symm
    have e3 : w1.alloc (.cells (cF f) 186) = w2 := hw2.symm
    rw [e3] at HX1 HB HX2
    rw [e2]
    clear e2 e3 hw2
    obtain ⟨k0, k1, k2, k3⟩ := box4 HX1.out
    have kw : w2.cell? ⟨w1.heap.size, 4, none⟩ = some (.int .i64 1) := by rw [(cell_of_row _ _ 4 _ _ _ HX2.out)]; show some (Value.int .i64 f.wr) = _; rw [HW.out]
    have q0 := fun d os => cell_regrown k0 d os
    have q1 := fun d os => cell_regrown k1 d os
    have q2 := fun d os => cell_regrown k2 d os
    have q3 := fun d os => cell_regrown k3 d os
    have qw := fun d os => cell_regrown kw d os
    refine wp_region_quiet_below (by kernel_rfl) (by kernel_rfl) ?_
    repeat (go_big_quiet_step ((go_at_call 140; exact Calls.regrown_of (HPA.out _))))
    refine wpQuiet_nil ?_
    rintro _ ⟨p9, rfl⟩
    have hb := below_regrown w2 p9.d p9.os
    generalize Go.Sort.grow (redrawn w2 p9.d) p9.os = wq at *
    go_wp2
    go_ret
    exact ⟨ret_int HE.out.symm, HB.out.step hb⟩
end Go.Proofs.YtgalekifgnecjaaGreat
