/- The rows of the reference of layer 8: what an operation has. -/
import Derived.Test.YtgalekifgnecjaaGreatB4
import Derived.Test.YtgalekifgnecjaaGreatV1
namespace Go.Proofs.YtgalekifgnecjaaGreat
open Go.RowKit Go.Shelf
attribute [local go_sem] Oper.semAt_some
/-- A row. -/
structure RowN where
  h0 : Int
  h1 : Int
  h2 : Int
  wr : Int
  r0 : Int
  r1 : Int
  rs : Bool
def row0 : RowN := ⟨0, 0, 0, 0, 0, 0, false⟩
def rowT : List RowN := [row0,
  ⟨1, 3, 0, 1, 0, 0, false⟩,
  ⟨1, 4, 0, 1, 0, 0, false⟩,
  ⟨1, 0, 0, 1, 0, 0, false⟩,
  ⟨1, 1, 0, 1, 2, 0, false⟩,
  ⟨1, 0, 0, 1, 0, 0, false⟩,
  ⟨1, 1, 1, 1, 2, 3, true⟩,
  ⟨1, 1, 1, 1, 2, 3, true⟩,
  ⟨1, 1, 1, 1, 2, 3, true⟩,
  ⟨1, 1, 1, 1, 2, 3, true⟩,
  ⟨1, 1, 1, 1, 2, 3, true⟩,
  ⟨1, 1, 0, 1, 2, 0, false⟩,
  ⟨1, 1, 1, 1, 2, 3, false⟩,
  ⟨1, 1, 1, 1, 2, 3, false⟩,
  ⟨1, 1, 1, 1, 2, 3, false⟩,
  ⟨1, 1, 0, 1, 2, 0, false⟩,
  ⟨1, 1, 0, 1, 2, 0, false⟩,
  ⟨1, 2, 5, 1, 2, 0, true⟩,
  ⟨5, 1, 0, 0, 2, 0, false⟩,
  ⟨6, 1, 0, 0, 2, 0, false⟩,
  ⟨7, 2, 8, 1, 2, 0, true⟩,
  ⟨1, 9, 4, 1, 0, 0, true⟩,
  ⟨1, 10, 0, 0, 1, 0, true⟩,
  ⟨2, 0, 0, 0, 1, 0, true⟩,
  ⟨11, 0, 0, 0, 0, 0, false⟩,
  ⟨1, 11, 0, 0, 1, 0, false⟩,
  ⟨12, 0, 0, 0, 0, 0, true⟩,
  ⟨0, 0, 0, 0, 0, 0, true⟩,
  ⟨2, 0, 0, 0, 1, 0, false⟩,
  ⟨1, 0, 0, 0, 1, 0, false⟩,
  ⟨1, 0, 0, 0, 1, 0, true⟩,
  ⟨0, 0, 0, 0, 0, 0, false⟩,
  ⟨1, 11, 0, 0, 1, 0, true⟩,
  ⟨1, 13, 0, 1, 0, 0, false⟩,
  ⟨13, 1, 0, 0, 2, 0, false⟩]
def rowL (op : Int) : RowN := if opOk op = true then rowT.getD op.toNat row0 else row0
abbrev cR (r : RowN) : Array Value := #[.int .i64 r.h0, .int .i64 r.h1, .int .i64 r.h2, .int .i64 r.wr, .int .i64 r.r0, .int .i64 r.r1, .bool r.rs]
abbrev vR (r : RowN) : Value := .agg (cR r)
/-- The rows say what the forms say. -/
theorem row_form (op : Int) : (rowL op).wr = (formL op).wr ∧ (rowL op).r0 = (formL op).r0 ∧ (rowL op).r1 = (formL op).r1 ∧ (rowL op).rs = (formL op).rs := by
  unfold rowL formL
  by_cases h : opOk op = true
  · rw [if_pos h, if_pos h]
    have h2 : 1 ≤ op ∧ op ≤ 34 := by unfold opOk at h; simpa using h
    have : ∀ k, k < 35 → (rowT.getD k row0).wr = (formT.getD k form0).wr ∧ (rowT.getD k row0).r0 = (formT.getD k form0).r0 ∧ (rowT.getD k row0).r1 = (formT.getD k form0).r1 ∧ (rowT.getD k row0).rs = (formT.getD k form0).rs := by decide
    exact this _ (by omega)
  · rw [if_neg h, if_neg h]
    exact ⟨rfl, rfl, rfl, rfl⟩
theorem size169 : (Tryz.prog.info? 169).map (·.size) = some 7 := by kernel_rfl
/-- The end of RowOf. -/
theorem row_ret {w : World} {a : Act} {r : RowN} {b : Bool} (hd : a.defers = []) (h2 : a.tmps.getD 2 undef = .pointer (some ⟨w.heap.size, 0, none⟩)) (h3 : a.tmps.getD 3 undef = .bool b) :
    bodyPost Tryz.prog Tryz.f130 (RetB (.tuple #[vR r, .bool b]) w) .ret a (w.alloc (.cells (cR r) 169)) :=
  bodyPost_ret (v := .tuple #[vR r, .bool b]) (results_row_tmp rfl _ _ w.heap.size 169 (cR r) (0, 0) _ h2 (heapn _ _ _ rfl) Tryz.underlying169 rfl size169 _ h3) hd ⟨rfl, bnew _ _⟩
set_option maxRecDepth 100000 in
theorem row_1 (w : World) : Calls Tryz.prog 130 #[.int .i64 1] w (RetB (.tuple #[vR ⟨1, 3, 0, 1, 0, 0, false⟩, .bool true]) w) := by
  go_enter Tryz.func130, Tryz.ntmps130
  go_wp2
  exact row_ret rfl rfl rfl
set_option maxRecDepth 100000 in
theorem row_2 (w : World) : Calls Tryz.prog 130 #[.int .i64 2] w (RetB (.tuple #[vR ⟨1, 4, 0, 1, 0, 0, false⟩, .bool true]) w) := by
  go_enter Tryz.func130, Tryz.ntmps130
  go_wp2
  exact row_ret rfl rfl rfl
set_option maxRecDepth 100000 in
theorem row_3 (w : World) : Calls Tryz.prog 130 #[.int .i64 3] w (RetB (.tuple #[vR ⟨1, 0, 0, 1, 0, 0, false⟩, .bool true]) w) := by
  go_enter Tryz.func130, Tryz.ntmps130
  go_wp2
  exact row_ret rfl rfl rfl
set_option maxRecDepth 100000 in
theorem row_4 (w : World) : Calls Tryz.prog 130 #[.int .i64 4] w (RetB (.tuple #[vR ⟨1, 1, 0, 1, 2, 0, false⟩, .bool true]) w) := by
  go_enter Tryz.func130, Tryz.ntmps130
  go_wp2
  exact row_ret rfl rfl rfl
set_option maxRecDepth 100000 in
theorem row_5 (w : World) : Calls Tryz.prog 130 #[.int .i64 5] w (RetB (.tuple #[vR ⟨1, 0, 0, 1, 0, 0, false⟩, .bool true]) w) := by
  go_enter Tryz.func130, Tryz.ntmps130
  go_wp2
  exact row_ret rfl rfl rfl
set_option maxRecDepth 100000 in
theorem row_6 (w : World) : Calls Tryz.prog 130 #[.int .i64 6] w (RetB (.tuple #[vR ⟨1, 1, 1, 1, 2, 3, true⟩, .bool true]) w) := by
  go_enter Tryz.func130, Tryz.ntmps130
  go_wp2
  exact row_ret rfl rfl rfl
set_option maxRecDepth 100000 in
theorem row_7 (w : World) : Calls Tryz.prog 130 #[.int .i64 7] w (RetB (.tuple #[vR ⟨1, 1, 1, 1, 2, 3, true⟩, .bool true]) w) := by
  go_enter Tryz.func130, Tryz.ntmps130
  go_wp2
  exact row_ret rfl rfl rfl
set_option maxRecDepth 100000 in
theorem row_8 (w : World) : Calls Tryz.prog 130 #[.int .i64 8] w (RetB (.tuple #[vR ⟨1, 1, 1, 1, 2, 3, true⟩, .bool true]) w) := by
  go_enter Tryz.func130, Tryz.ntmps130
  go_wp2
  exact row_ret rfl rfl rfl
set_option maxRecDepth 100000 in
theorem row_9 (w : World) : Calls Tryz.prog 130 #[.int .i64 9] w (RetB (.tuple #[vR ⟨1, 1, 1, 1, 2, 3, true⟩, .bool true]) w) := by
  go_enter Tryz.func130, Tryz.ntmps130
  go_wp2
  exact row_ret rfl rfl rfl
set_option maxRecDepth 100000 in
theorem row_10 (w : World) : Calls Tryz.prog 130 #[.int .i64 10] w (RetB (.tuple #[vR ⟨1, 1, 1, 1, 2, 3, true⟩, .bool true]) w) := by
  go_enter Tryz.func130, Tryz.ntmps130
  go_wp2
  exact row_ret rfl rfl rfl
set_option maxRecDepth 100000 in
theorem row_11 (w : World) : Calls Tryz.prog 130 #[.int .i64 11] w (RetB (.tuple #[vR ⟨1, 1, 0, 1, 2, 0, false⟩, .bool true]) w) := by
  go_enter Tryz.func130, Tryz.ntmps130
  go_wp2
  exact row_ret rfl rfl rfl
set_option maxRecDepth 100000 in
theorem row_12 (w : World) : Calls Tryz.prog 130 #[.int .i64 12] w (RetB (.tuple #[vR ⟨1, 1, 1, 1, 2, 3, false⟩, .bool true]) w) := by
  go_enter Tryz.func130, Tryz.ntmps130
  go_wp2
  exact row_ret rfl rfl rfl
set_option maxRecDepth 100000 in
theorem row_13 (w : World) : Calls Tryz.prog 130 #[.int .i64 13] w (RetB (.tuple #[vR ⟨1, 1, 1, 1, 2, 3, false⟩, .bool true]) w) := by
  go_enter Tryz.func130, Tryz.ntmps130
  go_wp2
  exact row_ret rfl rfl rfl
set_option maxRecDepth 100000 in
theorem row_14 (w : World) : Calls Tryz.prog 130 #[.int .i64 14] w (RetB (.tuple #[vR ⟨1, 1, 1, 1, 2, 3, false⟩, .bool true]) w) := by
  go_enter Tryz.func130, Tryz.ntmps130
  go_wp2
  exact row_ret rfl rfl rfl
set_option maxRecDepth 100000 in
theorem row_15 (w : World) : Calls Tryz.prog 130 #[.int .i64 15] w (RetB (.tuple #[vR ⟨1, 1, 0, 1, 2, 0, false⟩, .bool true]) w) := by
  go_enter Tryz.func130, Tryz.ntmps130
  go_wp2
  exact row_ret rfl rfl rfl
set_option maxRecDepth 100000 in
theorem row_16 (w : World) : Calls Tryz.prog 130 #[.int .i64 16] w (RetB (.tuple #[vR ⟨1, 1, 0, 1, 2, 0, false⟩, .bool true]) w) := by
  go_enter Tryz.func130, Tryz.ntmps130
  go_wp2
  exact row_ret rfl rfl rfl
set_option maxRecDepth 100000 in
theorem row_17 (w : World) : Calls Tryz.prog 130 #[.int .i64 17] w (RetB (.tuple #[vR ⟨1, 2, 5, 1, 2, 0, true⟩, .bool true]) w) := by
  go_enter Tryz.func130, Tryz.ntmps130
  go_wp2
  exact row_ret rfl rfl rfl
set_option maxRecDepth 100000 in
theorem row_18 (w : World) : Calls Tryz.prog 130 #[.int .i64 18] w (RetB (.tuple #[vR ⟨5, 1, 0, 0, 2, 0, false⟩, .bool true]) w) := by
  go_enter Tryz.func130, Tryz.ntmps130
  go_wp2
  exact row_ret rfl rfl rfl
set_option maxRecDepth 100000 in
theorem row_19 (w : World) : Calls Tryz.prog 130 #[.int .i64 19] w (RetB (.tuple #[vR ⟨6, 1, 0, 0, 2, 0, false⟩, .bool true]) w) := by
  go_enter Tryz.func130, Tryz.ntmps130
  go_wp2
  exact row_ret rfl rfl rfl
set_option maxRecDepth 100000 in
theorem row_20 (w : World) : Calls Tryz.prog 130 #[.int .i64 20] w (RetB (.tuple #[vR ⟨7, 2, 8, 1, 2, 0, true⟩, .bool true]) w) := by
  go_enter Tryz.func130, Tryz.ntmps130
  go_wp2
  exact row_ret rfl rfl rfl
set_option maxRecDepth 100000 in
theorem row_21 (w : World) : Calls Tryz.prog 130 #[.int .i64 21] w (RetB (.tuple #[vR ⟨1, 9, 4, 1, 0, 0, true⟩, .bool true]) w) := by
  go_enter Tryz.func130, Tryz.ntmps130
  go_wp2
  exact row_ret rfl rfl rfl
set_option maxRecDepth 100000 in
theorem row_22 (w : World) : Calls Tryz.prog 130 #[.int .i64 22] w (RetB (.tuple #[vR ⟨1, 10, 0, 0, 1, 0, true⟩, .bool true]) w) := by
  go_enter Tryz.func130, Tryz.ntmps130
  go_wp2
  exact row_ret rfl rfl rfl
set_option maxRecDepth 100000 in
theorem row_23 (w : World) : Calls Tryz.prog 130 #[.int .i64 23] w (RetB (.tuple #[vR ⟨2, 0, 0, 0, 1, 0, true⟩, .bool true]) w) := by
  go_enter Tryz.func130, Tryz.ntmps130
  go_wp2
  exact row_ret rfl rfl rfl
set_option maxRecDepth 100000 in
theorem row_24 (w : World) : Calls Tryz.prog 130 #[.int .i64 24] w (RetB (.tuple #[vR ⟨11, 0, 0, 0, 0, 0, false⟩, .bool true]) w) := by
  go_enter Tryz.func130, Tryz.ntmps130
  go_wp2
  exact row_ret rfl rfl rfl
set_option maxRecDepth 100000 in
theorem row_25 (w : World) : Calls Tryz.prog 130 #[.int .i64 25] w (RetB (.tuple #[vR ⟨1, 11, 0, 0, 1, 0, false⟩, .bool true]) w) := by
  go_enter Tryz.func130, Tryz.ntmps130
  go_wp2
  exact row_ret rfl rfl rfl
set_option maxRecDepth 100000 in
theorem row_26 (w : World) : Calls Tryz.prog 130 #[.int .i64 26] w (RetB (.tuple #[vR ⟨12, 0, 0, 0, 0, 0, true⟩, .bool true]) w) := by
  go_enter Tryz.func130, Tryz.ntmps130
  go_wp2
  exact row_ret rfl rfl rfl
set_option maxRecDepth 100000 in
theorem row_27 (w : World) : Calls Tryz.prog 130 #[.int .i64 27] w (RetB (.tuple #[vR ⟨0, 0, 0, 0, 0, 0, true⟩, .bool true]) w) := by
  go_enter Tryz.func130, Tryz.ntmps130
  go_wp2
  exact row_ret rfl rfl rfl
set_option maxRecDepth 100000 in
theorem row_28 (w : World) : Calls Tryz.prog 130 #[.int .i64 28] w (RetB (.tuple #[vR ⟨2, 0, 0, 0, 1, 0, false⟩, .bool true]) w) := by
  go_enter Tryz.func130, Tryz.ntmps130
  go_wp2
  exact row_ret rfl rfl rfl
set_option maxRecDepth 100000 in
theorem row_29 (w : World) : Calls Tryz.prog 130 #[.int .i64 29] w (RetB (.tuple #[vR ⟨1, 0, 0, 0, 1, 0, false⟩, .bool true]) w) := by
  go_enter Tryz.func130, Tryz.ntmps130
  go_wp2
  exact row_ret rfl rfl rfl
set_option maxRecDepth 100000 in
theorem row_30 (w : World) : Calls Tryz.prog 130 #[.int .i64 30] w (RetB (.tuple #[vR ⟨1, 0, 0, 0, 1, 0, true⟩, .bool true]) w) := by
  go_enter Tryz.func130, Tryz.ntmps130
  go_wp2
  exact row_ret rfl rfl rfl
set_option maxRecDepth 100000 in
theorem row_31 (w : World) : Calls Tryz.prog 130 #[.int .i64 31] w (RetB (.tuple #[vR ⟨0, 0, 0, 0, 0, 0, false⟩, .bool true]) w) := by
  go_enter Tryz.func130, Tryz.ntmps130
  go_wp2
  exact row_ret rfl rfl rfl
set_option maxRecDepth 100000 in
theorem row_32 (w : World) : Calls Tryz.prog 130 #[.int .i64 32] w (RetB (.tuple #[vR ⟨1, 11, 0, 0, 1, 0, true⟩, .bool true]) w) := by
  go_enter Tryz.func130, Tryz.ntmps130
  go_wp2
  exact row_ret rfl rfl rfl
set_option maxRecDepth 100000 in
theorem row_33 (w : World) : Calls Tryz.prog 130 #[.int .i64 33] w (RetB (.tuple #[vR ⟨1, 13, 0, 1, 0, 0, false⟩, .bool true]) w) := by
  go_enter Tryz.func130, Tryz.ntmps130
  go_wp2
  exact row_ret rfl rfl rfl
set_option maxRecDepth 100000 in
theorem row_34 (w : World) : Calls Tryz.prog 130 #[.int .i64 34] w (RetB (.tuple #[vR ⟨13, 1, 0, 0, 2, 0, false⟩, .bool true]) w) := by
  go_enter Tryz.func130, Tryz.ntmps130
  go_wp2
  exact row_ret rfl rfl rfl
set_option maxRecDepth 100000 in
set_option maxHeartbeats 1000000 in
theorem row_no (op : Int) (h : opOk op = false) (w : World) : Calls Tryz.prog 130 #[.int .i64 op] w (RetB (.tuple #[vR row0, .bool false]) w) := by
  have hn : op < 1 ∨ 34 < op := by
    unfold opOk at h
    simp at h
    omega
  have e1 : (op == 1) = false := by rw [beq_eq_false_iff_ne]; omega
  have e2 : (op == 2) = false := by rw [beq_eq_false_iff_ne]; omega
  have e3 : (op == 3) = false := by rw [beq_eq_false_iff_ne]; omega
  have e4 : (op == 4) = false := by rw [beq_eq_false_iff_ne]; omega
  have e5 : (op == 5) = false := by rw [beq_eq_false_iff_ne]; omega
  have e6 : (op == 6) = false := by rw [beq_eq_false_iff_ne]; omega
  have e7 : (op == 7) = false := by rw [beq_eq_false_iff_ne]; omega
  have e8 : (op == 8) = false := by rw [beq_eq_false_iff_ne]; omega
  have e9 : (op == 9) = false := by rw [beq_eq_false_iff_ne]; omega
  have e10 : (op == 10) = false := by rw [beq_eq_false_iff_ne]; omega
  have e11 : (op == 11) = false := by rw [beq_eq_false_iff_ne]; omega
  have e12 : (op == 12) = false := by rw [beq_eq_false_iff_ne]; omega
  have e13 : (op == 13) = false := by rw [beq_eq_false_iff_ne]; omega
  have e14 : (op == 14) = false := by rw [beq_eq_false_iff_ne]; omega
  have e15 : (op == 15) = false := by rw [beq_eq_false_iff_ne]; omega
  have e16 : (op == 16) = false := by rw [beq_eq_false_iff_ne]; omega
  have e17 : (op == 17) = false := by rw [beq_eq_false_iff_ne]; omega
  have e18 : (op == 18) = false := by rw [beq_eq_false_iff_ne]; omega
  have e19 : (op == 19) = false := by rw [beq_eq_false_iff_ne]; omega
  have e20 : (op == 20) = false := by rw [beq_eq_false_iff_ne]; omega
  have e21 : (op == 21) = false := by rw [beq_eq_false_iff_ne]; omega
  have e22 : (op == 22) = false := by rw [beq_eq_false_iff_ne]; omega
  have e23 : (op == 23) = false := by rw [beq_eq_false_iff_ne]; omega
  have e24 : (op == 24) = false := by rw [beq_eq_false_iff_ne]; omega
  have e25 : (op == 25) = false := by rw [beq_eq_false_iff_ne]; omega
  have e26 : (op == 26) = false := by rw [beq_eq_false_iff_ne]; omega
  have e27 : (op == 27) = false := by rw [beq_eq_false_iff_ne]; omega
  have e28 : (op == 28) = false := by rw [beq_eq_false_iff_ne]; omega
  have e29 : (op == 29) = false := by rw [beq_eq_false_iff_ne]; omega
  have e30 : (op == 30) = false := by rw [beq_eq_false_iff_ne]; omega
  have e31 : (op == 31) = false := by rw [beq_eq_false_iff_ne]; omega
  have e32 : (op == 32) = false := by rw [beq_eq_false_iff_ne]; omega
  have e33 : (op == 33) = false := by rw [beq_eq_false_iff_ne]; omega
  have e34 : (op == 34) = false := by rw [beq_eq_false_iff_ne]; omega
  clear hn h
  go_enter Tryz.func130, Tryz.ntmps130
  go_wp2
  exact row_ret rfl rfl rfl
theorem rowOf_any (op : Int) (w : World) : Calls Tryz.prog 130 #[.int .i64 op] w (RetB (.tuple #[vR (rowL op), .bool (opOk op)]) w) := by
  cases ho : opOk op with
  | false =>
    have hf : rowL op = row0 := by unfold rowL; rw [ho]; rfl
    rw [hf]
    exact row_no op ho w
  | true =>
    have hf : rowL op = rowT.getD op.toNat row0 := by unfold rowL; rw [ho]; rfl
    rw [hf]
    have h : 1 ≤ op ∧ op ≤ 34 := by unfold opOk at ho; simpa using ho
    clear hf ho
    have hc : op = 1 ∨ op = 2 ∨ op = 3 ∨ op = 4 ∨ op = 5 ∨ op = 6 ∨ op = 7 ∨ op = 8 ∨ op = 9 ∨ op = 10 ∨ op = 11 ∨ op = 12 ∨ op = 13 ∨ op = 14 ∨ op = 15 ∨ op = 16 ∨ op = 17 ∨ op = 18 ∨ op = 19 ∨ op = 20 ∨ op = 21 ∨ op = 22 ∨ op = 23 ∨ op = 24 ∨ op = 25 ∨ op = 26 ∨ op = 27 ∨ op = 28 ∨ op = 29 ∨ op = 30 ∨ op = 31 ∨ op = 32 ∨ op = 33 ∨ op = 34 := by omega
    rcases hc with rfl | rfl | rfl | rfl | rfl | rfl | rfl | rfl | rfl | rfl | rfl | rfl | rfl | rfl | rfl | rfl | rfl | rfl | rfl | rfl | rfl | rfl | rfl | rfl | rfl | rfl | rfl | rfl | rfl | rfl | rfl | rfl | rfl | rfl
    · exact row_1 w
    · exact row_2 w
    · exact row_3 w
    · exact row_4 w
    · exact row_5 w
    · exact row_6 w
    · exact row_7 w
    · exact row_8 w
    · exact row_9 w
    · exact row_10 w
    · exact row_11 w
    · exact row_12 w
    · exact row_13 w
    · exact row_14 w
    · exact row_15 w
    · exact row_16 w
    · exact row_17 w
    · exact row_18 w
    · exact row_19 w
    · exact row_20 w
    · exact row_21 w
    · exact row_22 w
    · exact row_23 w
    · exact row_24 w
    · exact row_25 w
    · exact row_26 w
    · exact row_27 w
    · exact row_28 w
    · exact row_29 w
    · exact row_30 w
    · exact row_31 w
    · exact row_32 w
    · exact row_33 w
    · exact row_34 w
end Go.Proofs.YtgalekifgnecjaaGreat
