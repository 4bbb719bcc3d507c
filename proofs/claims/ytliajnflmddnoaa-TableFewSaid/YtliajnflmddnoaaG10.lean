/- Contracts of none, kind, the closures of place, and the searches that call them. -/
import Derived.Test.YtliajnflmddnoaaG9
import Derived.Test.YtliajnflmddnoaaP4
import Derived.Laws.StructEq
namespace Go.Proofs.Ytliajnflmddnoaa
open Go.RowKit

theorem eq99 (a b c d : Int) (w : World) : (Op.equalIn 10000 99 (.agg #[.int .i64 a, .int .i64 b]) (.agg #[.int .i64 c, .int .i64 d])).run Try.prog w = .ok (decide ((a, b) = (c, d))) w := by
  have u3 := Try.underlying3
  have a3 := Try.isAgg3
  have z3 := Try.sizeOf3
  have hS : Try.prog.underlying 99 = some (.struct (Try.prog.fieldsOf 99)) := by kernel_rfl
  have hp : Try.prog.stoodInHeld 99 = false := by kernel_rfl
  rw [show (10000 : Nat) = 9999 + 1 from rfl, run_equalIn_agg w 9999 99 _ _ hS hp]
  simp only [Program.fieldsOf, Try.underlying99]
  go_simp
  by_cases h1 : a = c <;> by_cases h2 : b = d <;> simp [h1, h2]
theorem eql99 (a b c d : Int) (w : World) : (binOp .eql 99 (.agg #[.int .i64 a, .int .i64 b]) (.agg #[.int .i64 c, .int .i64 d])).run Try.prog w = .ok (.bool (decide ((a, b) = (c, d)))) w := by
  rw [run_eql_struct, eq99 a b c d]
  rfl
theorem g99 : Try.prog.eqGuardType Try.prog.depth 99 = false := by kernel_rfl

set_option maxRecDepth 100000 in
set_option maxHeartbeats 1000000 in
theorem none_any (w : World) : Calls Try.prog 65 #[] w (RetB (.agg #[.int .i64 (-1), .int .i64 0]) w) := by
  go_enter Try.func65, Try.ntmps65
  go_wp2
  exact bodyPost_ret (v := .agg #[.int .i64 (-1), .int .i64 0]) (by simp [results, Try.results65, go_sem]) rfl ⟨rfl, bnew _ _⟩

/-- What a cell is for a row: 0 free, 1 its own, 2 another's. -/
def kindV (C : List (Int × Int)) (p : Nat) (row : Int) : Int := if C.getD p (-1, 0) = (-1, 0) then 0 else if (C.getD p (-1, 0)).1 = row then 1 else 2

set_option maxRecDepth 100000 in
set_option maxHeartbeats 1000000 in
theorem kind_any (C : List (Int × Int)) (a : Option Addr) (cap p : Nat) (row : Int) (w : World) (hc : RdP w a C) (_hlen : C.length ≤ 1000000) (_hp : p ≤ 1000000) :
    Calls Try.prog 64 #[.slice a C.length cap, .int .i64 p, .int .i64 row] w (RetB (.int .i64 (kindV C p row)) w) := by
  have HC := hid hc; clear hc
  by_cases hlt : p < C.length
  · obtain ⟨b, off, rfl, hlt2, h1, h2⟩ := HC.out.at hlt
    have hge : decide (C.length ≤ p) = false := by simp; omega
    have hlt' : (p : Int) < (C.length : Int) := by omega
    obtain ⟨x, hx⟩ : ∃ x, x = C.getD p (-1, 0) := ⟨_, rfl⟩
    have hk : kindV C p row = if x = (-1, 0) then 0 else if x.1 = row then 1 else 2 := by unfold kindV; rw [← hx]
    rw [hk]
    rw [← hx] at h1 h2
    clear hk hx
    obtain ⟨x, y⟩ := x
    simp only at h1 h2 ⊢
    have HX := hid h1
    have HY := hid h2
    have q99 := fun w => eql99 x y (-1) 0 w
    have G99 := g99
    have HB := hid (Below.refl w.heap.size w)
    have hb := bdrew w
    by_cases hn : (x, y) = (-1, 0)
    · rw [if_pos hn]
      have hd : decide ((x, y) = ((-1 : Int), (0 : Int))) = true := decide_eq_true hn
      rw [hd] at q99
      clear hn hd h1 h2
      go_enter Try.func64, Try.ntmps64
      go_upto_region 1 with fail
      go_region_held3 (fun w' => w'.cell? ⟨b, off + p * 2, none⟩ = some (.int .i64 x) ∧ w'.cell? ⟨b, off + p * 2 + 1, none⟩ = some (.int .i64 y)) (first | exact ⟨HX.out, HY.out⟩ | exact ⟨cell_later hb HX.out, cell_later hb HY.out⟩)
        ((go_at_call 65; refine (none_any _).mono ?_; rintro e w9 ⟨rfl, hbb⟩; have hb := hb.step hbb; clear hbb))
      go_wp2
      go_ret
      exact ⟨rfl, hb⟩
    · rw [if_neg hn]
      have hd : decide ((x, y) = ((-1 : Int), (0 : Int))) = false := decide_eq_false hn
      rw [hd] at q99
      clear hn hd h1 h2
      go_enter Try.func64, Try.ntmps64
      go_upto_region 1 with fail
      go_region_held3 (fun w' => w'.cell? ⟨b, off + p * 2, none⟩ = some (.int .i64 x) ∧ w'.cell? ⟨b, off + p * 2 + 1, none⟩ = some (.int .i64 y)) (first | exact ⟨HX.out, HY.out⟩ | exact ⟨cell_later hb HX.out, cell_later hb HY.out⟩)
        ((go_at_call 65; refine (none_any _).mono ?_; rintro e w9 ⟨rfl, hbb⟩; have hb := hb.step hbb; clear hbb))
      have k1 := cell_later hb HX.out
      have k2 := cell_later hb HY.out
      have HBB := hid hb
      clear hb HX HY
      generalize hv : (if x = row then (1 : Int) else 2) = v at *
      have HV := hid hv
      clear hv
      go_wp2
      all_goals
        rename_i hxr
        go_ret
        refine ⟨ret_int ?_, HBB.out⟩
        rw [← HV.out]
        simp at hxr
        simp [hxr]
  · have hge : decide (C.length ≤ p) = true := by simp; omega
    have hk : kindV C p row = 0 := by unfold kindV; rw [List.getD_eq_getElem?_getD, List.getElem?_eq_none (by omega)]; rfl
    rw [hk]
    go_enter Try.func64, Try.ntmps64
    go_upto_region 1 with fail
    go_quiet (fail)
    go_wp2
    go_ret
    exact ⟨rfl, bdrewN (Below.refl _ _) _⟩
end Go.Proofs.Ytliajnflmddnoaa
