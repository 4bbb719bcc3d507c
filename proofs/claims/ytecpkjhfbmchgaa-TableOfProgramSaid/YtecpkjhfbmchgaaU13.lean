/- right of package core. -/
import Derived.Test.YtecpkjhfbmchgaaU8
import Derived.Lib.QuietBelow
namespace Go.Proofs.Ytecpkjhfbmchgaa
open Go.RowKit

def fits3 (p : PrgN) (u : UntN) (i : InsN) (k : Nat) : Bool := fitsN p u (hasN (formL i.op) k) (partN i k)
def callOk (p : PrgN) (i : InsN) : Bool := i.op != 20 || decide (i.a < 0) || (p.sels.getD i.c.toNat sel0).res
/-- An instruction is right. -/
def rightN (p : PrgN) (u : UntN) (i : InsN) : Bool := (opOk i.op && (fits3 p u i 0 && fits3 p u i 1 && fits3 p u i 2)) && callOk p i
theorem right_op {p : PrgN} {u : UntN} {i : InsN} (h : opOk i.op = false) : rightN p u i = false := by unfold rightN; rw [h]; rfl
theorem right_no {p : PrgN} {u : UntN} {i : InsN} {k : Nat} (hk : k < 3) (h : fits3 p u i k = false) : rightN p u i = false := by
  unfold rightN
  rcases (show k = 0 ∨ k = 1 ∨ k = 2 by omega) with rfl | rfl | rfl
  · rw [h]; simp
  · rw [h]; simp
  · rw [h]; simp
theorem right_yes {p : PrgN} {u : UntN} {i : InsN} (ho : opOk i.op = true) (h : ∀ k, k < 3 → fits3 p u i k = true) : rightN p u i = callOk p i := by
  unfold rightN
  rw [ho, h 0 (by omega), h 1 (by omega), h 2 (by omega)]
  rfl
theorem call_in {p : PrgN} {u : UntN} {i : InsN} (h20 : i.op = 20) (h : fits3 p u i 2 = true) : 0 ≤ i.c ∧ i.c < p.sels.length := by
  unfold fits3 at h
  have e : hasN (formL i.op) 2 = 8 := by rw [h20]; rfl
  rw [e] at h
  unfold fitsN at h
  rw [if_neg (by decide), if_neg (by decide), if_neg (by decide), if_neg (by decide), if_neg (by decide), if_neg (by decide), if_neg (by decide), if_neg (by decide), if_neg (by decide), if_neg (by decide)] at h
  split at h
  · rename_i h1
    unfold inN partN at h1
    simp at h1
    omega
  · cases h

set_option maxRecDepth 100000 in
set_option maxHeartbeats 8000000 in
theorem right_any (p : PrgN) (q : PlN) (u : UntN) (ca : Option Addr) (cc : Nat) (ga : Option Addr) (gc : Nat) (i : InsN) (w : World) (hl : RdS w q.la p.sels) (h1 : p.shapes.length ≤ 1000000) (h2 : p.sels.length ≤ 1000000) (h3 : u.code.length ≤ 1000000) (h4 : 0 ≤ u.slots ∧ u.slots ≤ 1000000) (h5 : 0 ≤ u.frame ∧ u.frame ≤ 1000000) :
    Calls Try.prog 61 #[vP p q, vU u ca cc ga gc, vI i] w (RetB (.bool (rightN p u i)) w) := by
  have HL := hid hl; clear hl
  have HF := hid (formOf_any i.op)
  have HPA := hid (fun w => parts_any i w)
  have HNO := hid (fun (h : opOk i.op = false) => right_op (p := p) (u := u) h)
  have HN3 := hid (fun (k : Nat) (hk : k < 3) (h : fits3 p u i k = false) => right_no hk h)
  have HYES := hid (fun (h : opOk i.op = true) (h' : ∀ k, k < 3 → fits3 p u i k = true) => right_yes h h')
  have HCI := hid (fun (h : i.op = 20) (h' : fits3 p u i 2 = true) => call_in h h')
  have HFT := hid (fun (k : Nat) (w : World) (h : RdS w q.la p.sels) => (ufits_any p q u ca cc ga gc (hasN (formL i.op) k) (partN i k) w h h1 h2 h3 h4 h5 : Calls Try.prog 69 #[vP p q, vU u ca cc ga gc, .int .i64 (hasN (formL i.op) k), .int .i64 (partN i k)] w (RetB (.bool (fits3 p u i k)) w)))
  have hy0 := idx116_0 i.a i.b i.c
  have hy1 := idx116_1 i.a i.b i.c
  have hy2 := idx116_2 i.a i.b i.c
  have HB := hid (((bnew w (oP p q)).step (bnew _ (oU u ca cc ga gc))).step (bnew ((w.alloc (oP p q)).alloc (oU u ca cc ga gc)) (.cells #[.int .i64 i.op, .int .i64 i.a, .int .i64 i.b, .int .i64 i.c] 113)))
  have HX3 := hid (keepBox ((bnew (w.alloc (oP p q)) (oU u ca cc ga gc)).step (bnew _ (.cells #[.int .i64 i.op, .int .i64 i.a, .int .i64 i.b, .int .i64 i.c] 113))) (heapn w (oP p q) _ rfl))
  have HX4 := hid (keepBox (bnew ((w.alloc (oP p q)).alloc (oU u ca cc ga gc)) (.cells #[.int .i64 i.op, .int .i64 i.a, .int .i64 i.b, .int .i64 i.c] 113)) (heapn (w.alloc (oP p q)) (oU u ca cc ga gc) _ rfl))
  have HX5 := hid (heapn ((w.alloc (oP p q)).alloc (oU u ca cc ga gc)) (.cells #[.int .i64 i.op, .int .i64 i.a, .int .i64 i.b, .int .i64 i.c] 113) _ rfl)
  have e1 : (w.alloc (oP p q)).heap.size = w.heap.size + 1 := by simp
  have e2 : ((w.alloc (oP p q)).alloc (oU u ca cc ga gc)).heap.size = w.heap.size + 1 + 1 := by simp
  rw [e1] at HX4
  rw [e2] at HX5
  obtain ⟨b0, b1, b2, b3⟩ := box4 HX5.out
  clear e1 e2
  cases ho : opOk i.op with
  | false =>
    rw [ho] at HF
    have HV := hid (HNO.out ho)
    clear ho
    go_enter Try.func61, Try.ntmps61
    go_wp2_with (go_at_call 62; (with_reducible refine (HF.out _).mono ?_); rintro e w1 ⟨rfl, hb⟩; replace HB := hid (HB.out.step (hb.step (bnew w1 (.cells (cF (formL i.op)) 119)))); clear hb)
    go_ret
    exact ⟨ret_bool HV.out.symm, HB.out⟩
  | true =>
    rw [ho] at HF
    have HO := hid ho
    clear ho
    go_enter Try.func61, Try.ntmps61
    go_wp2_with fail
    generalize ((w.alloc (oP p q)).alloc (oU u ca cc ga gc)).alloc (.cells #[.int .i64 i.op, .int .i64 i.a, .int .i64 i.b, .int .i64 i.c] 113) = w0 at *
    go_upto_region 5 with (first
      | (go_at_call 62; (with_reducible refine (HF.out _).mono ?_); rintro e w1 ⟨rfl, hb⟩; have hb2 := hb.step (bnew w1 (.cells (cF (formL i.op)) 119)); replace HB := hid (HB.out.step hb2); replace HX3 := hid (keepBox hb2 HX3.out); replace HX4 := hid (keepBox hb2 HX4.out); replace HX5 := hid (keepBox hb2 HX5.out); have HX7 := hid (heapn w1 (.cells (cF (formL i.op)) 119) _ rfl); clear b0 b1 b2 b3; obtain ⟨b0, b1, b2, b3⟩ := box4 HX5.out; clear hb hb2)
      | (go_at_call 68; (with_reducible refine (HPA.out _).mono ?_); rintro e w2 ⟨rfl, hb⟩; replace HB := hid (HB.out.step hb); replace HX3 := hid (keepBox hb HX3.out); replace HX4 := hid (keepBox hb HX4.out); replace HX5 := hid (keepBox hb HX5.out); replace HX7 := hid (keepBox hb HX7.out); clear b0 b1 b2 b3; clear hb))
    go_loopg [21] 3 (fun gh s21 wr => ∃ k : Nat, k ≤ 3 ∧ gh = 3 - k ∧ s21 = .int .i64 k ∧ Hid (∀ j, j < k → fits3 p u i j = true) ∧ Hid (Below w2.heap.size w2 wr))
    case atStart => exact ⟨0, Nat.zero_le _, rfl, rfl, hid (fun j hj => by omega), hid (Below.refl _ _)⟩
    case round =>
      obtain ⟨k, hk, rfl, rfl, HFS, HKB⟩ := hrel
      by_cases hlt : k < 3
      · rcases (show k = 0 ∨ k = 1 ∨ k = 2 by omega) with rfl | rfl | rfl
        · rw [show ((0 : Nat) : Int) = 0 from rfl]
          cases hf : fits3 p u i 0 with
          | true =>
            have HFK := hid (fun (w : World) (h : RdS w q.la p.sels) => (by have h9 := HFT.out 0 w h; have hf' := hf; unfold fits3 at hf'; rw [hf'] at h9; exact h9 : Calls Try.prog 69 #[vP p q, vU u ca cc ga gc, .int .i64 (formL i.op).h0, .int .i64 i.a] w (RetB (.bool true) w)))
            have HFV := hid hf
            clear hf
            go_upto_region 7 with fail
            have A3 := hid (box5' (keepBox HKB.out HX3.out))
            have A4 := hid (box7 (keepBox HKB.out HX4.out))
            have A7 := hid ((cell_of_row _ _ 1 _ _ _ (keepBox HKB.out HX7.out)).trans rfl : wr.cell? ⟨w1.heap.size, 1, none⟩ = some (.int .i64 (formL i.op).h0))
            have q0 := fun d os => cell_regrown A3.out.1 d os
            have q1 := fun d os => cell_regrown A3.out.2.1 d os
            have q2 := fun d os => cell_regrown A3.out.2.2.1 d os
            have q3 := fun d os => cell_regrown A3.out.2.2.2.1 d os
            have q4 := fun d os => cell_regrown A3.out.2.2.2.2 d os
            have r0 := fun d os => cell_regrown A4.out.1 d os
            have r1 := fun d os => cell_regrown A4.out.2.1 d os
            have r2 := fun d os => cell_regrown A4.out.2.2.1 d os
            have r3 := fun d os => cell_regrown A4.out.2.2.2.1 d os
            have r4 := fun d os => cell_regrown A4.out.2.2.2.2.1 d os
            have r5 := fun d os => cell_regrown A4.out.2.2.2.2.2.1 d os
            have r6 := fun d os => cell_regrown A4.out.2.2.2.2.2.2 d os
            have f7 := fun d os => cell_regrown A7.out d os
            refine wp_region_quiet_below (by kernel_rfl) (by kernel_rfl) ?_
            repeat (go_big_quiet_step ((go_at_call 69; exact Calls.regrown_of (HFK.out _ ((HL.out.below (HB.out.step HKB.out)).below (below_regrown _ _ _))))))
            refine wpQuiet_nil ?_
            rintro _ ⟨p9, rfl⟩
            have HB9 := hid (below_regrown wr p9.d p9.os)
            generalize Go.Sort.grow (redrawn wr p9.d) p9.os = wq at *
            clear q0 q1 q2 q3 q4 r0 r1 r2 r3 r4 r5 r6 f7
            go_wp2_with fail
            go_roundg (3 - (0 + 1))
            case measure => omega
            case rel => exact ⟨0 + 1, by omega, rfl, rfl, hid (fun j hj => by rcases (show j < 0 ∨ j = 0 by omega) with h | rfl; exact HFS.out j h; exact HFV.out), hid (HKB.out.step HB9.out)⟩
          | false =>
            have HFK := hid (fun (w : World) (h : RdS w q.la p.sels) => (by have h9 := HFT.out 0 w h; have hf' := hf; unfold fits3 at hf'; rw [hf'] at h9; exact h9 : Calls Try.prog 69 #[vP p q, vU u ca cc ga gc, .int .i64 (formL i.op).h0, .int .i64 i.a] w (RetB (.bool false) w)))
            have HFV := hid hf
            clear hf
            go_upto_region 7 with fail
            have A3 := hid (box5' (keepBox HKB.out HX3.out))
            have A4 := hid (box7 (keepBox HKB.out HX4.out))
            have A7 := hid ((cell_of_row _ _ 1 _ _ _ (keepBox HKB.out HX7.out)).trans rfl : wr.cell? ⟨w1.heap.size, 1, none⟩ = some (.int .i64 (formL i.op).h0))
            have q0 := fun d os => cell_regrown A3.out.1 d os
            have q1 := fun d os => cell_regrown A3.out.2.1 d os
            have q2 := fun d os => cell_regrown A3.out.2.2.1 d os
            have q3 := fun d os => cell_regrown A3.out.2.2.2.1 d os
            have q4 := fun d os => cell_regrown A3.out.2.2.2.2 d os
            have r0 := fun d os => cell_regrown A4.out.1 d os
            have r1 := fun d os => cell_regrown A4.out.2.1 d os
            have r2 := fun d os => cell_regrown A4.out.2.2.1 d os
            have r3 := fun d os => cell_regrown A4.out.2.2.2.1 d os
            have r4 := fun d os => cell_regrown A4.out.2.2.2.2.1 d os
            have r5 := fun d os => cell_regrown A4.out.2.2.2.2.2.1 d os
            have r6 := fun d os => cell_regrown A4.out.2.2.2.2.2.2 d os
            have f7 := fun d os => cell_regrown A7.out d os
            refine wp_region_quiet_below (by kernel_rfl) (by kernel_rfl) ?_
            repeat (go_big_quiet_step ((go_at_call 69; exact Calls.regrown_of (HFK.out _ ((HL.out.below (HB.out.step HKB.out)).below (below_regrown _ _ _))))))
            refine wpQuiet_nil ?_
            rintro _ ⟨p9, rfl⟩
            have HB9 := hid (below_regrown wr p9.d p9.os)
            generalize Go.Sort.grow (redrawn wr p9.d) p9.os = wq at *
            clear q0 q1 q2 q3 q4 r0 r1 r2 r3 r4 r5 r6 f7
            go_wp2_with fail
            go_ret
            exact ⟨ret_bool (HN3.out 0 (by omega) HFV.out).symm, (HB.out.step HKB.out).step HB9.out⟩
        · rw [show ((1 : Nat) : Int) = 1 from rfl]
          cases hf : fits3 p u i 1 with
          | true =>
            have HFK := hid (fun (w : World) (h : RdS w q.la p.sels) => (by have h9 := HFT.out 1 w h; have hf' := hf; unfold fits3 at hf'; rw [hf'] at h9; exact h9 : Calls Try.prog 69 #[vP p q, vU u ca cc ga gc, .int .i64 (formL i.op).h1, .int .i64 i.b] w (RetB (.bool true) w)))
            have HFV := hid hf
            clear hf
            go_upto_region 7 with fail
            have A3 := hid (box5' (keepBox HKB.out HX3.out))
            have A4 := hid (box7 (keepBox HKB.out HX4.out))
            have A7 := hid ((cell_of_row _ _ 2 _ _ _ (keepBox HKB.out HX7.out)).trans rfl : wr.cell? ⟨w1.heap.size, 2, none⟩ = some (.int .i64 (formL i.op).h1))
            have q0 := fun d os => cell_regrown A3.out.1 d os
            have q1 := fun d os => cell_regrown A3.out.2.1 d os
            have q2 := fun d os => cell_regrown A3.out.2.2.1 d os
            have q3 := fun d os => cell_regrown A3.out.2.2.2.1 d os
            have q4 := fun d os => cell_regrown A3.out.2.2.2.2 d os
            have r0 := fun d os => cell_regrown A4.out.1 d os
            have r1 := fun d os => cell_regrown A4.out.2.1 d os
            have r2 := fun d os => cell_regrown A4.out.2.2.1 d os
            have r3 := fun d os => cell_regrown A4.out.2.2.2.1 d os
            have r4 := fun d os => cell_regrown A4.out.2.2.2.2.1 d os
            have r5 := fun d os => cell_regrown A4.out.2.2.2.2.2.1 d os
            have r6 := fun d os => cell_regrown A4.out.2.2.2.2.2.2 d os
            have f7 := fun d os => cell_regrown A7.out d os
            refine wp_region_quiet_below (by kernel_rfl) (by kernel_rfl) ?_
            repeat (go_big_quiet_step ((go_at_call 69; exact Calls.regrown_of (HFK.out _ ((HL.out.below (HB.out.step HKB.out)).below (below_regrown _ _ _))))))
            refine wpQuiet_nil ?_
            rintro _ ⟨p9, rfl⟩
            have HB9 := hid (below_regrown wr p9.d p9.os)
            generalize Go.Sort.grow (redrawn wr p9.d) p9.os = wq at *
            clear q0 q1 q2 q3 q4 r0 r1 r2 r3 r4 r5 r6 f7
            go_wp2_with fail
            go_roundg (3 - (1 + 1))
            case measure => omega
            case rel => exact ⟨1 + 1, by omega, rfl, rfl, hid (fun j hj => by rcases (show j < 1 ∨ j = 1 by omega) with h | rfl; exact HFS.out j h; exact HFV.out), hid (HKB.out.step HB9.out)⟩
          | false =>
            have HFK := hid (fun (w : World) (h : RdS w q.la p.sels) => (by have h9 := HFT.out 1 w h; have hf' := hf; unfold fits3 at hf'; rw [hf'] at h9; exact h9 : Calls Try.prog 69 #[vP p q, vU u ca cc ga gc, .int .i64 (formL i.op).h1, .int .i64 i.b] w (RetB (.bool false) w)))
            have HFV := hid hf
            clear hf
            go_upto_region 7 with fail
            have A3 := hid (box5' (keepBox HKB.out HX3.out))
            have A4 := hid (box7 (keepBox HKB.out HX4.out))
            have A7 := hid ((cell_of_row _ _ 2 _ _ _ (keepBox HKB.out HX7.out)).trans rfl : wr.cell? ⟨w1.heap.size, 2, none⟩ = some (.int .i64 (formL i.op).h1))
            have q0 := fun d os => cell_regrown A3.out.1 d os
            have q1 := fun d os => cell_regrown A3.out.2.1 d os
            have q2 := fun d os => cell_regrown A3.out.2.2.1 d os
            have q3 := fun d os => cell_regrown A3.out.2.2.2.1 d os
            have q4 := fun d os => cell_regrown A3.out.2.2.2.2 d os
            have r0 := fun d os => cell_regrown A4.out.1 d os
            have r1 := fun d os => cell_regrown A4.out.2.1 d os
            have r2 := fun d os => cell_regrown A4.out.2.2.1 d os
            have r3 := fun d os => cell_regrown A4.out.2.2.2.1 d os
            have r4 := fun d os => cell_regrown A4.out.2.2.2.2.1 d os
            have r5 := fun d os => cell_regrown A4.out.2.2.2.2.2.1 d os
            have r6 := fun d os => cell_regrown A4.out.2.2.2.2.2.2 d os
            have f7 := fun d os => cell_regrown A7.out d os
            refine wp_region_quiet_below (by kernel_rfl) (by kernel_rfl) ?_
            repeat (go_big_quiet_step ((go_at_call 69; exact Calls.regrown_of (HFK.out _ ((HL.out.below (HB.out.step HKB.out)).below (below_regrown _ _ _))))))
            refine wpQuiet_nil ?_
            rintro _ ⟨p9, rfl⟩
            have HB9 := hid (below_regrown wr p9.d p9.os)
            generalize Go.Sort.grow (redrawn wr p9.d) p9.os = wq at *
            clear q0 q1 q2 q3 q4 r0 r1 r2 r3 r4 r5 r6 f7
            go_wp2_with fail
            go_ret
            exact ⟨ret_bool (HN3.out 1 (by omega) HFV.out).symm, (HB.out.step HKB.out).step HB9.out⟩
        · rw [show ((2 : Nat) : Int) = 2 from rfl]
          cases hf : fits3 p u i 2 with
          | true =>
            have HFK := hid (fun (w : World) (h : RdS w q.la p.sels) => (by have h9 := HFT.out 2 w h; have hf' := hf; unfold fits3 at hf'; rw [hf'] at h9; exact h9 : Calls Try.prog 69 #[vP p q, vU u ca cc ga gc, .int .i64 (formL i.op).h2, .int .i64 i.c] w (RetB (.bool true) w)))
            have HFV := hid hf
            clear hf
            go_upto_region 7 with fail
            have A3 := hid (box5' (keepBox HKB.out HX3.out))
            have A4 := hid (box7 (keepBox HKB.out HX4.out))
            have A7 := hid ((cell_of_row _ _ 3 _ _ _ (keepBox HKB.out HX7.out)).trans rfl : wr.cell? ⟨w1.heap.size, 3, none⟩ = some (.int .i64 (formL i.op).h2))
            have q0 := fun d os => cell_regrown A3.out.1 d os
            have q1 := fun d os => cell_regrown A3.out.2.1 d os
            have q2 := fun d os => cell_regrown A3.out.2.2.1 d os
            have q3 := fun d os => cell_regrown A3.out.2.2.2.1 d os
            have q4 := fun d os => cell_regrown A3.out.2.2.2.2 d os
            have r0 := fun d os => cell_regrown A4.out.1 d os
            have r1 := fun d os => cell_regrown A4.out.2.1 d os
            have r2 := fun d os => cell_regrown A4.out.2.2.1 d os
            have r3 := fun d os => cell_regrown A4.out.2.2.2.1 d os
            have r4 := fun d os => cell_regrown A4.out.2.2.2.2.1 d os
            have r5 := fun d os => cell_regrown A4.out.2.2.2.2.2.1 d os
            have r6 := fun d os => cell_regrown A4.out.2.2.2.2.2.2 d os
            have f7 := fun d os => cell_regrown A7.out d os
            refine wp_region_quiet_below (by kernel_rfl) (by kernel_rfl) ?_
            repeat (go_big_quiet_step ((go_at_call 69; exact Calls.regrown_of (HFK.out _ ((HL.out.below (HB.out.step HKB.out)).below (below_regrown _ _ _))))))
            refine wpQuiet_nil ?_
            rintro _ ⟨p9, rfl⟩
            have HB9 := hid (below_regrown wr p9.d p9.os)
            generalize Go.Sort.grow (redrawn wr p9.d) p9.os = wq at *
            clear q0 q1 q2 q3 q4 r0 r1 r2 r3 r4 r5 r6 f7
            go_wp2_with fail
            go_roundg (3 - (2 + 1))
            case measure => omega
            case rel => exact ⟨2 + 1, by omega, rfl, rfl, hid (fun j hj => by rcases (show j < 2 ∨ j = 2 by omega) with h | rfl; exact HFS.out j h; exact HFV.out), hid (HKB.out.step HB9.out)⟩
          | false =>
            have HFK := hid (fun (w : World) (h : RdS w q.la p.sels) => (by have h9 := HFT.out 2 w h; have hf' := hf; unfold fits3 at hf'; rw [hf'] at h9; exact h9 : Calls Try.prog 69 #[vP p q, vU u ca cc ga gc, .int .i64 (formL i.op).h2, .int .i64 i.c] w (RetB (.bool false) w)))
            have HFV := hid hf
            clear hf
            go_upto_region 7 with fail
            have A3 := hid (box5' (keepBox HKB.out HX3.out))
            have A4 := hid (box7 (keepBox HKB.out HX4.out))
            have A7 := hid ((cell_of_row _ _ 3 _ _ _ (keepBox HKB.out HX7.out)).trans rfl : wr.cell? ⟨w1.heap.size, 3, none⟩ = some (.int .i64 (formL i.op).h2))
            have q0 := fun d os => cell_regrown A3.out.1 d os
            have q1 := fun d os => cell_regrown A3.out.2.1 d os
            have q2 := fun d os => cell_regrown A3.out.2.2.1 d os
            have q3 := fun d os => cell_regrown A3.out.2.2.2.1 d os
            have q4 := fun d os => cell_regrown A3.out.2.2.2.2 d os
            have r0 := fun d os => cell_regrown A4.out.1 d os
            have r1 := fun d os => cell_regrown A4.out.2.1 d os
            have r2 := fun d os => cell_regrown A4.out.2.2.1 d os
            have r3 := fun d os => cell_regrown A4.out.2.2.2.1 d os
            have r4 := fun d os => cell_regrown A4.out.2.2.2.2.1 d os
            have r5 := fun d os => cell_regrown A4.out.2.2.2.2.2.1 d os
            have r6 := fun d os => cell_regrown A4.out.2.2.2.2.2.2 d os
            have f7 := fun d os => cell_regrown A7.out d os
            refine wp_region_quiet_below (by kernel_rfl) (by kernel_rfl) ?_
            repeat (go_big_quiet_step ((go_at_call 69; exact Calls.regrown_of (HFK.out _ ((HL.out.below (HB.out.step HKB.out)).below (below_regrown _ _ _))))))
            refine wpQuiet_nil ?_
            rintro _ ⟨p9, rfl⟩
            have HB9 := hid (below_regrown wr p9.d p9.os)
            generalize Go.Sort.grow (redrawn wr p9.d) p9.os = wq at *
            clear q0 q1 q2 q3 q4 r0 r1 r2 r3 r4 r5 r6 f7
            go_wp2_with fail
            go_ret
            exact ⟨ret_bool (HN3.out 2 (by omega) HFV.out).symm, (HB.out.step HKB.out).step HB9.out⟩
      · obtain rfl : k = 3 := by omega
        have HV := hid (HYES.out HO.out HFS.out)
        have HBW := hid (HB.out.step HKB.out)
        obtain ⟨c0, c1, c2, c3⟩ := box4 (keepBox HKB.out HX5.out)
        obtain ⟨v, hv⟩ : ∃ v, v = callOk p i := ⟨_, rfl⟩
        rw [← hv] at HV
        unfold callOk at hv
        by_cases h20 : i.op = 20
        · have d20 : (i.op != 20) = false := by rw [h20]; rfl
          rw [d20] at hv
          by_cases ha : i.a < 0
          · have da : decide (i.a < 0) = true := decide_eq_true ha
            rw [da] at hv
            have HE := hid (hv : v = true)
            clear hv h20
            go_wp2_with fail
            go_ret
            exact ⟨ret_bool (by rw [HV.out, HE.out]; rfl), HBW.out⟩
          · have da : decide (i.a < 0) = false := decide_eq_false ha
            rw [da] at hv
            obtain ⟨hc0, hc1⟩ := HCI.out h20 (HFS.out 2 (by omega))
            obtain ⟨m, hm⟩ : ∃ m : Nat, i.c = (m : Int) := ⟨i.c.toNat, by omega⟩
            have hml : m < p.sels.length := by omega
            rw [hm, show ((m : Int)).toNat = m from rfl, getD_in hml] at hv
            obtain ⟨bs, os, hsa, _, s0, s1, s2, s3⟩ := (HL.out.below HBW.out) m hml
            rw [hm] at c3
            have nm : (m : Int) < (p.sels.length : Int) := by omega
            have nm0 : (0 : Int) ≤ (m : Int) := by omega
            obtain ⟨a0, a1, a2, a3, a4⟩ := box5' (keepBox HKB.out HX3.out)
            rw [hsa] at a1
            have HE := hid (hv : v = p.sels[m].res)
            generalize p.sels[m] = s at *
            clear hv h20 hm hsa hc0 hc1 s0 s1 s2
            go_wp2_with fail
            go_ret
            exact ⟨ret_bool (by rw [HV.out, HE.out]; rfl), HBW.out⟩
        · have d20 : (i.op != 20) = true := by rw [bne, beq_eq_false_iff_ne.2 h20]; rfl
          rw [d20] at hv
          have HE := hid (hv : v = true)
          clear hv h20
          go_wp2_with fail
          go_ret
          exact ⟨ret_bool (by rw [HV.out, HE.out]; rfl), HBW.out⟩
end Go.Proofs.Ytecpkjhfbmchgaa
