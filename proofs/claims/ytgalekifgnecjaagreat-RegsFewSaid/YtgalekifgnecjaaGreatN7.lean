/- Traffic of package regs. -/
import Derived.Test.YtgalekifgnecjaaGreatN6
namespace Go.Proofs.YtgalekifgnecjaaGreat
open Go.RowKit Go.Shelf
attribute [local go_sem] Oper.semAt_some
theorem k79 (x : InsN) (n : Int) (p : Nat) (w : World) (hp : w.cell? ⟨p, 0, none⟩ = some (.int .i64 n)) : Calls Tryz.prog 79 #[vI x, .pointer (some ⟨p, 0, none⟩)] w (RetB (.bool (opB n x)) w) := by
  have H : Hid (opB n x = (x.op == n)) := hid rfl
  have HB := hid (bnew w (.cells #[.int .i64 x.op, .int .i64 x.a, .int .i64 x.b, .int .i64 x.c] 85))
  have hp1 := cell_later HB.out hp
  obtain ⟨k0, k1, k2, k3⟩ := box4 (heapn w (.cells #[.int .i64 x.op, .int .i64 x.a, .int .i64 x.b, .int .i64 x.c] 85) _ rfl)
  generalize opB n x = r at *
  go_enter Tryz.func79, Tryz.ntmps79
  go_wp2
  go_ret
  exact ⟨by rw [H.out]; rfl, HB.out⟩
theorem enters79 : Enters 79 := enters_of Tryz.func79 (by kernel_rfl) rfl
/-- How many instructions of a kind. -/
def manyN (u : UntN) (n : Int) : Nat := (u.code.filter (opB n)).length
set_option maxRecDepth 100000 in
set_option maxHeartbeats 4000000 in
theorem many_any (u : UntN) (n : Int) (ca : Option Addr) (cc : Nat) (ga : Option Addr) (gc : Nat) (b : Nat) (w : World) (hu : w.heap[b]? = some (oU u ca cc ga gc)) (hc : RdC w ca u.code) (hlc : u.code.length ≤ 1000000) :
    Calls Tryz.prog 77 #[.int .i64 n, .pointer (some ⟨b, 0, none⟩)] w (RetB (.int .i64 (manyN u n)) w) := by
  have HB := hid (bnew w (.cells #[.int .i64 n] 3))
  have HN := hid ((cell_of_row _ _ 0 _ _ _ (heapn w (.cells #[.int .i64 n] 3) _ rfl)).trans rfl)
  have HF := hid (filterC_any 79 enters79 #[.pointer (some ⟨w.heap.size, 0, none⟩)] (opB n) u.code ca cc (w.alloc (.cells #[.int .i64 n] 3)) (fun x _ w' hb => k79 x n w.heap.size w' (cell_later hb HN.out)) (hc.below HB.out) hlc)
  have k5 : (w.alloc (.cells #[.int .i64 n] 3)).cell? ⟨b, 5, none⟩ = some (.slice ca u.code.length cc) := cell_later HB.out ((cell_of_row _ _ 5 _ _ _ hu).trans rfl)
  clear HN
  go_enter Tryz.func77, Tryz.ntmps77
  go_wp2_with (first
    | (go_at_call 78; (with_reducible refine HF.out.mono ?_); rintro e w1 ⟨hb, v, rfl, ho⟩; obtain ⟨fa, fc, rfl, _⟩ := ho.rd; have HB1 := hid (HB.out.step hb); clear hb ho))
  go_ret
  exact ⟨rfl, HB1.out⟩
set_option maxRecDepth 100000 in
set_option maxHeartbeats 4000000 in
theorem traffic_any (u : UntN) (ca : Option Addr) (cc : Nat) (ga : Option Addr) (gc : Nat) (w : World) (hm : UnM w u ca cc ga gc) (hlc : u.code.length ≤ 1000000) (hlg : u.guards.length ≤ 1000000) :
    Calls Tryz.prog 28 #[vU u ca cc ga gc] w (RetB (.tuple #[.int .i64 (if plainB u = true then manyN u 33 else 0 : Nat), .int .i64 (if plainB u = true then manyN u 34 else 0 : Nat), .int .i64 (if plainB u = true then 0 else 1)]) w) := by
  have HP := hid (fun w' (hb : Below w.heap.size w w') => plain_regs u ca cc ga gc w' (hm.below hb) hlc hlg)
  have HX1 := hid (heapn w (oU u ca cc ga gc) _ rfl)
  have HB := hid (bnew w (oU u ca cc ga gc))
  have HMA := hid (fun (n : Int) w' (hb : Below w.heap.size w w') (hu : w'.heap[w.heap.size]? = some (oU u ca cc ga gc)) => many_any u n ca cc ga gc w.heap.size w' hu (hm.below hb).rc hlc)
  obtain ⟨k0, k1, k2, k3, k4, k5, k6⟩ := box7 HX1.out
  cases hp : plainB u with
  | true =>
    rw [hp] at HP
    go_enter Tryz.func28, Tryz.ntmps28
    go_wp2_with (first
      | (go_at_call 76; (with_reducible refine (HP.out _ HB.out).mono ?_); rintro e w2 ⟨rfl, hb⟩; have HX2 := hid (keepBox hb HX1.out); have HB2 := hid (HB.out.step hb); have A1 := hid (HMA.out 33 w2 HB2.out HX2.out); clear hb)
      | (go_at_call 77; first
        | ((with_reducible refine A1.out.mono ?_); rintro e w3 ⟨rfl, hb⟩; have A2 := hid (HMA.out 34 w3 (HB2.out.step hb) (keepBox hb HX2.out)); have HB3 := hid (HB2.out.step hb); clear hb A1)
        | ((with_reducible refine A2.out.mono ?_); rintro e w4 ⟨rfl, hb⟩; have HB4 := hid (HB3.out.step hb); clear hb)))
    all_goals exact bodyPost_ret (v := .tuple #[.int .i64 (manyN u 33), .int .i64 (manyN u 34), .int .i64 0]) (by simp [results, Tryz.results28, go_sem]) rfl ⟨rfl, HB4.out⟩
  | false =>
    rw [hp] at HP
    go_enter Tryz.func28, Tryz.ntmps28
    go_wp2_with (first
      | (go_at_call 76; (with_reducible refine (HP.out _ HB.out).mono ?_); rintro e w2 ⟨rfl, hb⟩; have HB2 := hid (HB.out.step hb); clear hb))
    all_goals exact bodyPost_ret (v := .tuple #[.int .i64 0, .int .i64 0, .int .i64 1]) (by simp [results, Tryz.results28, go_sem]) rfl ⟨rfl, HB2.out⟩
end Go.Proofs.YtgalekifgnecjaaGreat
