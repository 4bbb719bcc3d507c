/- The chapter's examples: sanity returns true. -/
import Derived.Test.YtecpkjhfbmchgaaG23
namespace Go.Proofs.Ytecpkjhfbmchgaa
open Go.RowKit

def L3 : Ld := ⟨4, [0, 0, 4], [(0, 5), (1, 6), (0, 7), (1, 8), (2, 1), (-1, 0), (-1, 0), (2, 2)]⟩
def L4 : Ld := ⟨4, [0, 0, 4, 2], [(0, 5), (1, 6), (0, 7), (1, 8), (2, 1), (3, 9), (-1, 0), (2, 2)]⟩
def L2 : Ld := ⟨4, [0, -1, 4], [(0, 5), (-1, 0), (0, 7), (-1, 0), (2, 1), (-1, 0), (-1, 0), (2, 2)]⟩
def L5 : Ld := ⟨4, [0, -1, 4, 0], [(0, 5), (3, 3), (0, 7), (-1, 0), (2, 1), (-1, 0), (-1, 0), (2, 2)]⟩
def F3 : List (List (Int × Int)) := [[(0, 5), (2, 7)], [(1, 6), (3, 8)], [(0, 1), (3, 2)]]
theorem ex_chk : chkM m3 = 0 := by decide
theorem ex_clash : clashN m3 0 2 = 0 ∧ clashIs m3 0 2 = true ∧ clashE m3 0 2 = 0 ∧ clashN m3 0 1 = 0 ∧ clashIs m3 0 1 = false ∧ clashE m3 0 1 = 0 ∧ clashN m3 1 3 = 1 ∧ clashIs m3 1 3 = true ∧ clashE m3 1 3 = 0 := by decide
theorem ex_col : colV m3 = [0, 0, 1, 1] ∧ colN m3 = 2 ∧ cliqueV m3 = [0, 2] := by decide
theorem ex_fold : foldC m3 = [0, 0, 1, 1] ∧ foldV m3 = F3 := by decide
theorem ex_pick : pickV [0, 0, 1, 1] F3 1 2 = -1 ∧ pickE [0, 0, 1, 1] F3 1 2 = 0 := by decide
theorem ex_lay : layV m3 = L3 := by
  unfold layV
  rw [if_pos ex_chk]
  show (⟨(colsN m3 : Int), (layL m3).1, (layL m3).2⟩ : Ld) = _
  rw [show layL m3 = (L3.starts, L3.cells) from by decide]
  rfl
theorem ex_look : lookV L3 1 0 = -1 ∧ lookE L3 1 0 = 0 := by decide
theorem ex_ins : insE L3 [-1, -1, -1, 9] = 0 ∧ insAt L3 [-1, -1, -1, 9] = 3 ∧ insE L2 [-1, 3, -1, -1] = 0 ∧ insAt L2 [-1, 3, -1, -1] = 3 := by decide
theorem ex_ins1 : insV L3 [-1, -1, -1, 9] = L4 := by
  unfold insV
  rw [if_pos ex_ins.1, show startN L3.cells [-1, -1, -1, 9] = 2 from by decide, show putL L3.cells [-1, -1, -1, 9] (L3.starts.length : Nat) = L4.cells from by decide]
  rfl
theorem ex_ins2 : insV L2 [-1, 3, -1, -1] = L5 := by
  unfold insV
  rw [if_pos ex_ins.2.2.1, show startN L2.cells [-1, 3, -1, -1] = 0 from by decide, show putL L2.cells [-1, 3, -1, -1] (L2.starts.length : Nat) = L5.cells from by decide]
  rfl
theorem ex_take : hasE L3 1 = 0 ∧ takV L3 1 = L2 := by
  have h : hasE L3 1 = 0 := by decide
  refine ⟨h, ?_⟩
  unfold takV
  rw [if_pos h]
  rfl
theorem ex_spare : spareV L3 = 2 ∧ chkL L3 = 0 ∧ spareV L2 = 4 ∧ chkL L2 = 0 := by decide

theorem rdi_new (w : World) (g : Nat) (c : Array Value) (l : List Int) (h : w.heap[g]? = some (.cells c 3 (0, 0))) (hc : ∀ i (h : i < l.length), c[i]? = some (.int .i64 l[i])) : RdI w (some ⟨g, 0, none⟩) l :=
  fun i hi => ⟨g, 0, rfl, lt_of_heap h, by rw [Nat.zero_add]; exact cell_in h (hc i hi)⟩
def MatV (m : List (List Int)) (w : World) (e : Ending) (w' : World) : Prop := Below w.heap.size w w' ∧ ∃ a c, e = .returned (.slice a 3 c) ∧ RdM w' a m
set_option maxHeartbeats 1000000 in
theorem three_any (w : World) : Calls Try.prog 9 #[] w (MatV m3 w) := by
  go_enter Try.func9, Try.ntmps9
  go_wp2
  go_ret
  obtain ⟨R0, hR0⟩ : ∃ o : Obj, o = .cells #[.int .i64 5, .int .i64 (-1), .int .i64 7, .int .i64 (-1)] 3 := ⟨_, rfl⟩
  obtain ⟨R1, hR1⟩ : ∃ o : Obj, o = .cells #[.int .i64 (-1), .int .i64 6, .int .i64 (-1), .int .i64 8] 3 := ⟨_, rfl⟩
  obtain ⟨R2, hR2⟩ : ∃ o : Obj, o = .cells #[.int .i64 1, .int .i64 (-1), .int .i64 (-1), .int .i64 2] 3 := ⟨_, rfl⟩
  rw [← hR0, ← hR1, ← hR2]
  obtain ⟨R3, hR3⟩ : ∃ o : Obj, o = .cells #[.slice (some ⟨w.heap.size, 0, none⟩) 4 4, .slice (some ⟨w.heap.size + 1, 0, none⟩) 4 4, .slice (some ⟨w.heap.size + 1 + 1, 0, none⟩) 4 4] 33 := ⟨_, rfl⟩
  rw [← hR3]
  have z0 := keepBox (bnew (((w.alloc R0).alloc R1).alloc R2) R3) (keepBox (bnew ((w.alloc R0).alloc R1) R2) (keepBox (bnew (w.alloc R0) R1) (heapn w R0 w.heap.size rfl)))
  have z1 := keepBox (bnew (((w.alloc R0).alloc R1).alloc R2) R3) (keepBox (bnew ((w.alloc R0).alloc R1) R2) (heapn (w.alloc R0) R1 (w.heap.size + 1) (by simp)))
  have z2 := keepBox (bnew (((w.alloc R0).alloc R1).alloc R2) R3) (heapn ((w.alloc R0).alloc R1) R2 (w.heap.size + 1 + 1) (by simp))
  have z3 := heapn (((w.alloc R0).alloc R1).alloc R2) R3 (w.heap.size + 1 + 1 + 1) (by simp)
  have hb : Below w.heap.size w ((((w.alloc R0).alloc R1).alloc R2).alloc R3) := (((bnew _ _).step (bnew _ _)).step (bnew _ _)).step (bnew _ _)
  generalize (((w.alloc R0).alloc R1).alloc R2).alloc R3 = W at *
  subst hR0
  subst hR1
  subst hR2
  subst hR3
  refine ⟨hb, some ⟨_, 0, none⟩, 3, rfl, ?_⟩
  intro i hi
  have hi3 : i < 3 := hi
  match i, hi3 with
  | 0, _ => exact ⟨_, 0, rfl, lt_of_heap z3, some ⟨w.heap.size, 0, none⟩, 4, cell_in z3 rfl, rdi_new _ _ _ _ z0 (fun k hk => by have hk4 : k < 4 := hk; match k, hk4 with | 0, _ => rfl | 1, _ => rfl | 2, _ => rfl | 3, _ => rfl)⟩
  | 1, _ => exact ⟨_, 0, rfl, lt_of_heap z3, some ⟨w.heap.size + 1, 0, none⟩, 4, cell_in z3 rfl, rdi_new _ _ _ _ z1 (fun k hk => by have hk4 : k < 4 := hk; match k, hk4 with | 0, _ => rfl | 1, _ => rfl | 2, _ => rfl | 3, _ => rfl)⟩
  | 2, _ => exact ⟨_, 0, rfl, lt_of_heap z3, some ⟨w.heap.size + 1 + 1, 0, none⟩, 4, cell_in z3 rfl, rdi_new _ _ _ _ z2 (fun k hk => by have hk4 : k < 4 := hk; match k, hk4 with | 0, _ => rfl | 1, _ => rfl | 2, _ => rfl | 3, _ => rfl)⟩

theorem h60 : ∀ r, r ∈ m3 → r.length ≤ 1000000 := by decide
theorem s_clash1 (a : Option Addr) (c : Nat) (w : World) (h : RdM w a m3) : Calls Try.prog 10 #[.slice a 3 c, .int .i64 0, .int .i64 2] w (Ret3 (.int .i64 0) (.bool true) (.int .i64 0) w) := by
  have h := Clash_any m3 a c 0 2 w h (by decide) h60
  rw [ex_clash.1, ex_clash.2.1, ex_clash.2.2.1] at h
  exact h
theorem s_clash2 (a : Option Addr) (c : Nat) (w : World) (h : RdM w a m3) : Calls Try.prog 10 #[.slice a 3 c, .int .i64 0, .int .i64 1] w (Ret3 (.int .i64 0) (.bool false) (.int .i64 0) w) := by
  have h := Clash_any m3 a c 0 1 w h (by decide) h60
  rw [ex_clash.2.2.2.1, ex_clash.2.2.2.2.1, ex_clash.2.2.2.2.2.1] at h
  exact h
theorem s_clash3 (a : Option Addr) (c : Nat) (w : World) (h : RdM w a m3) : Calls Try.prog 10 #[.slice a 3 c, .int .i64 1, .int .i64 3] w (Ret3 (.int .i64 1) (.bool true) (.int .i64 0) w) := by
  have h := Clash_any m3 a c 1 3 w h (by decide) h60
  rw [ex_clash.2.2.2.2.2.2.1, ex_clash.2.2.2.2.2.2.2.1, ex_clash.2.2.2.2.2.2.2.2] at h
  exact h
theorem s_colour (a : Option Addr) (c : Nat) (w : World) (h : RdM w a m3) : Calls Try.prog 11 #[.slice a 3 c] w (fun e w' => Below w.heap.size w w' ∧ ∃ a c, e = .returned (.tuple #[.slice a 4 c, .int .i64 2, .int .i64 0]) ∧ RdI w' a [0, 0, 1, 1]) := by
  have h := Colour_any m3 a c w h (by decide) h60
  rw [ex_col.1, ex_col.2.1, ex_chk] at h
  refine h.mono ?_
  rintro e w' ⟨hb, v, rfl, hown⟩
  obtain ⟨a, c, rfl, hr⟩ := hown.rd
  exact ⟨hb, a, c, rfl, hr⟩
theorem s_clique (a : Option Addr) (c : Nat) (w : World) (h : RdM w a m3) : Calls Try.prog 12 #[.slice a 3 c] w (fun e w' => Below w.heap.size w w' ∧ ∃ a c, e = .returned (.tuple #[.slice a 2 c, .int .i64 0]) ∧ RdI w' a [0, 2]) := by
  have h := Clique_any m3 a c w h (fun _ => by decide) (by decide) h60
  rw [ex_col.2.2, ex_chk] at h
  exact h
theorem s_fold (a : Option Addr) (c : Nat) (w : World) (h : RdM w a m3) : Calls Try.prog 13 #[.slice a 3 c] w (fun e w' => Below w.heap.size w w' ∧ ∃ ac cc ar cr, e = .returned (.tuple #[.agg #[.slice ac 4 cc, .slice ar 3 cr], .int .i64 0]) ∧ RdI w' ac [0, 0, 1, 1] ∧ RdG w' ar F3) := by
  have h := Fold_any m3 a c w h (by decide) h60
  rw [ex_fold.1, ex_fold.2, ex_chk] at h
  exact h
theorem s_pick (ac : Option Addr) (cc : Nat) (ar : Option Addr) (cr : Nat) (w : World) (h1 : RdI w ac [0, 0, 1, 1]) (h2 : RdG w ar F3) : Calls Try.prog 14 #[.agg #[.slice ac 4 cc, .slice ar 3 cr], .int .i64 1, .int .i64 2] w (Ret2 (.int .i64 (-1)) (.int .i64 0) w) := by
  have h := Pick_any [0, 0, 1, 1] F3 1 2 ac cc ar cr w h1 h2 (by decide) (by decide) (by decide)
  rw [ex_pick.1, ex_pick.2] at h
  exact h
theorem s_lay (a : Option Addr) (c : Nat) (w : World) (h : RdM w a m3) : Calls Try.prog 7 #[.slice a 3 c] w (fun e w' => Below w.heap.size w w' ∧ ∃ sa sc ca cc, e = .returned (.tuple #[.agg #[.int .i64 4, .slice sa 3 sc, .slice ca 8 cc], .int .i64 0]) ∧ LdM w' L3 sa sc ca cc) := by
  have h := Lay_any m3 a c w h (fun _ => by decide) (by decide) h60
  rw [ex_lay, ex_chk] at h
  exact h
theorem s_look (sa : Option Addr) (sc : Nat) (ca : Option Addr) (cc : Nat) (w : World) (h : LdM w L3 sa sc ca cc) : Calls Try.prog 8 #[.agg #[.int .i64 4, .slice sa 3 sc, .slice ca 8 cc], .int .i64 1, .int .i64 0] w (Ret2 (.int .i64 (-1)) (.int .i64 0) w) := by
  have h := Look_any L3 ⟨by decide, by decide⟩ 1 0 sa sc ca cc w h
  rw [ex_look.1, ex_look.2] at h
  exact h
theorem s_ins1 (sa : Option Addr) (sc : Nat) (ca : Option Addr) (cc : Nat) (ar : Option Addr) (cr : Nat) (w : World) (h : LdM w L3 sa sc ca cc) (hr : RdI w ar [-1, -1, -1, 9]) : Calls Try.prog 15 #[.agg #[.int .i64 4, .slice sa 3 sc, .slice ca 8 cc], .slice ar 4 cr] w (fun e w' => Below w.heap.size w w' ∧ ∃ sa sc ca cc, e = .returned (.tuple #[.agg #[.int .i64 4, .slice sa 4 sc, .slice ca 8 cc], .int .i64 3, .int .i64 0]) ∧ LdM w' L4 sa sc ca cc) := by
  have h := Insert_any L3 ⟨by decide, by decide⟩ [-1, -1, -1, 9] ar cr sa sc ca cc w h hr (by decide)
  rw [ex_ins1, ex_ins.1, ex_ins.2.1] at h
  exact h
theorem s_take (sa : Option Addr) (sc : Nat) (ca : Option Addr) (cc : Nat) (w : World) (h : LdM w L3 sa sc ca cc) : Calls Try.prog 16 #[.agg #[.int .i64 4, .slice sa 3 sc, .slice ca 8 cc], .int .i64 1] w (fun e w' => Below w.heap.size w w' ∧ ∃ sa sc ca cc, e = .returned (.tuple #[.agg #[.int .i64 4, .slice sa 3 sc, .slice ca 8 cc], .int .i64 0]) ∧ LdM w' L2 sa sc ca cc) := by
  have h := Take_any L3 ⟨by decide, by decide⟩ 1 sa sc ca cc w h
  rw [ex_take.1, ex_take.2] at h
  exact h
theorem s_spare3 (sa : Option Addr) (sc : Nat) (ca : Option Addr) (cc : Nat) (w : World) (h : LdM w L3 sa sc ca cc) : Calls Try.prog 17 #[.agg #[.int .i64 4, .slice sa 3 sc, .slice ca 8 cc]] w (Ret2 (.int .i64 2) (.int .i64 0) w) := by
  have h := Spare_any L3 ⟨by decide, by decide⟩ sa sc ca cc w h
  rw [ex_spare.1, ex_spare.2.1] at h
  exact h
theorem s_spare2 (sa : Option Addr) (sc : Nat) (ca : Option Addr) (cc : Nat) (w : World) (h : LdM w L2 sa sc ca cc) : Calls Try.prog 17 #[.agg #[.int .i64 4, .slice sa 3 sc, .slice ca 8 cc]] w (Ret2 (.int .i64 4) (.int .i64 0) w) := by
  have h := Spare_any L2 ⟨by decide, by decide⟩ sa sc ca cc w h
  rw [ex_spare.2.2.1, ex_spare.2.2.2] at h
  exact h
theorem s_ins2 (sa : Option Addr) (sc : Nat) (ca : Option Addr) (cc : Nat) (ar : Option Addr) (cr : Nat) (w : World) (h : LdM w L2 sa sc ca cc) (hr : RdI w ar [-1, 3, -1, -1]) : Calls Try.prog 15 #[.agg #[.int .i64 4, .slice sa 3 sc, .slice ca 8 cc], .slice ar 4 cr] w (fun e w' => Below w.heap.size w w' ∧ ∃ sa sc ca cc, e = .returned (.tuple #[.agg #[.int .i64 4, .slice sa 4 sc, .slice ca 8 cc], .int .i64 3, .int .i64 0]) ∧ LdM w' L5 sa sc ca cc) := by
  have h := Insert_any L2 ⟨by decide, by decide⟩ [-1, 3, -1, -1] ar cr sa sc ca cc w h hr (by decide)
  rw [ex_ins2, ex_ins.2.2.1, ex_ins.2.2.2] at h
  exact h
theorem s_same (x y : List Int) (n k : Nat) (hx : x.length = n) (hy : y.length = k) (hn : n ≤ 100) (hk : k ≤ 100) (b : Bool) (hb : decide (x = y) = b) (a c : Option Addr) (cap cap' : Nat) (w : World) (h1 : RdI w a x) (h2 : RdI w c y) : Calls Try.prog 6 #[.slice a n cap, .slice c k cap'] w (RetB (.bool b) w) := by
  subst hx
  subst hy
  have h := same_ints x y a c cap cap' w h1 h2 (by omega) (by omega)
  rw [hb] at h
  exact h
theorem rd4 (w : World) (a b c d : Int) : RdI (w.alloc (.cells #[.int .i64 a, .int .i64 b, .int .i64 c, .int .i64 d] 3)) (some ⟨w.heap.size, 0, none⟩) [a, b, c, d] :=
  rdi_new _ _ _ _ (heapn _ _ _ rfl) (fun k hk => by have hk4 : k < 4 := hk; match k, hk4 with | 0, _ => rfl | 1, _ => rfl | 2, _ => rfl | 3, _ => rfl)
theorem rd3 (w : World) (a b c : Int) : RdI (w.alloc (.cells #[.int .i64 a, .int .i64 b, .int .i64 c] 3)) (some ⟨w.heap.size, 0, none⟩) [a, b, c] :=
  rdi_new _ _ _ _ (heapn _ _ _ rfl) (fun k hk => by have hk4 : k < 3 := hk; match k, hk4 with | 0, _ => rfl | 1, _ => rfl | 2, _ => rfl)
theorem rd2 (w : World) (a b : Int) : RdI (w.alloc (.cells #[.int .i64 a, .int .i64 b] 3)) (some ⟨w.heap.size, 0, none⟩) [a, b] :=
  rdi_new _ _ _ _ (heapn _ _ _ rfl) (fun k hk => by have hk4 : k < 2 := hk; match k, hk4 with | 0, _ => rfl | 1, _ => rfl)
theorem eq97 (a b c d : Int) (w : World) : (Op.equalIn 10000 63 (.agg #[.int .i64 a, .int .i64 b]) (.agg #[.int .i64 c, .int .i64 d])).run Try.prog w = .ok (decide ((a, b) = (c, d))) w := by
  have u3 := Try.underlying3
  have a3 := Try.isAgg3
  have z3 := Try.sizeOf3
  have hS : Try.prog.underlying 63 = some (.struct (Try.prog.fieldsOf 63)) := by kernel_rfl
  have hp : Try.prog.stoodInHeld 63 = false := by kernel_rfl
  rw [show (10000 : Nat) = 9999 + 1 from rfl, run_equalIn_agg w 9999 63 _ _ hS hp]
  simp only [Program.fieldsOf, Try.underlying63]
  go_simp
  by_cases h1 : a = c <;> by_cases h2 : b = d <;> simp [h1, h2]
theorem eql97 (a b c d : Int) (w : World) : (binOp .eql 63 (.agg #[.int .i64 a, .int .i64 b]) (.agg #[.int .i64 c, .int .i64 d])).run Try.prog w = .ok (.bool (decide ((a, b) = (c, d)))) w := by
  rw [run_eql_struct, eq97 a b c d]
  rfl
theorem g97 : Try.prog.eqGuardType Try.prog.depth 63 = false := by kernel_rfl

set_option maxRecDepth 1000000 in
set_option maxHeartbeats 16000000 in
theorem sanity_any (w : World) : Calls Try.prog 4 #[] w (RetB (.bool true) w) := by
  go_enter Try.func4, Try.ntmps4
  go_upto_region 7 with (first
    | (go_at_call 9; refine (three_any _).mono ?_; rintro e w1 ⟨hb, a1, c1, rfl, hr⟩; have HB := hid hb; have HM := hid hr; clear hb hr)
    | (go_at_call 10; ((with_reducible refine (s_clash1 a1 c1 _ HM.out).mono ?_); rintro e w2 ⟨rfl, hb⟩); have HB := hid (HB.out.step hb); have HM := hid (HM.out.below hb); clear hb)
    | (go_at_call 10; ((with_reducible refine (s_clash2 a1 c1 _ HM.out).mono ?_); rintro e w2 ⟨rfl, hb⟩); have HB := hid (HB.out.step hb); have HM := hid (HM.out.below hb); clear hb)
    | (go_at_call 10; ((with_reducible refine (s_clash3 a1 c1 _ HM.out).mono ?_); rintro e w2 ⟨rfl, hb⟩); have HB := hid (HB.out.step hb); have HM := hid (HM.out.below hb); clear hb)
    | (go_at_call 11; ((with_reducible refine (s_colour a1 c1 _ HM.out).mono ?_); rintro e w2 ⟨hb, a11, c11, rfl, hr⟩); have HB := hid (HB.out.step hb); have HM := hid (HM.out.below hb); have HC := hid hr; clear hb hr)
    | (go_at_call 12; ((with_reducible refine (s_clique a1 c1 _ HM.out).mono ?_); rintro e w2 ⟨hb, a14, c14, rfl, hr⟩); have HB := hid (HB.out.step hb); have HM := hid (HM.out.below hb); have HC := hid (HC.out.below hb); have HQ := hid hr; clear hb hr))
  go_upto_region 11 with (first
    | (go_at_call 13; ((with_reducible refine (s_fold a1 c1 _ HM.out).mono ?_); rintro e w7 ⟨hb, ac, cc, ar, cr, rfl, hr1, hr2⟩); have HB := hid (HB.out.step hb); have HM := hid (HM.out.below hb); have HC := hid (HC.out.below hb); have HQ := hid (HQ.out.below hb); have HFC := hid hr1; have HFR := hid hr2; clear hb hr1 hr2)
    | (go_at_call 14; ((with_reducible refine (s_pick ac cc ar cr _ (HFC.out.below (bnew _ _)) (HFR.out.below (bnew _ _))).mono ?_); rintro e w8 ⟨rfl, hb⟩); have HX16 := hid (keepBox hb (heapn w7 (.cells #[.slice ac 4 cc, .slice ar 3 cr] 53) _ rfl)); have HB := hid (HB.out.step ((bnew _ _).step hb)); have HM := hid (HM.out.below ((bnew _ _).step hb)); have HC := hid (HC.out.below ((bnew _ _).step hb)); have HQ := hid (HQ.out.below ((bnew _ _).step hb)); have HFC := hid (HFC.out.below ((bnew _ _).step hb)); have HFR := hid (HFR.out.below ((bnew _ _).step hb)); clear hb)
    | (go_at_call 7; ((with_reducible refine (s_lay a1 c1 _ HM.out).mono ?_); rintro e w9 ⟨hb, sa, sc, ca, cc2, rfl, hr⟩); have HB := hid (HB.out.step hb); have HC := hid (HC.out.below hb); have HQ := hid (HQ.out.below hb); have HFC := hid (HFC.out.below hb); have HFR := hid (HFR.out.below hb); have HX16 := hid (keepBox hb HX16.out); have HL := hid hr; clear hb hr)
    | (go_at_call 8; ((with_reducible refine (s_look sa sc ca cc2 _ (HL.out.below (bnew _ _))).mono ?_); rintro e w10 ⟨rfl, hb⟩); have HX20 := hid (keepBox hb (heapn w9 (.cells #[.int .i64 4, .slice sa 3 sc, .slice ca 8 cc2] 38) _ rfl)); have HB := hid (HB.out.step ((bnew _ _).step hb)); have HC := hid (HC.out.below ((bnew _ _).step hb)); have HQ := hid (HQ.out.below ((bnew _ _).step hb)); have HFC := hid (HFC.out.below ((bnew _ _).step hb)); have HFR := hid (HFR.out.below ((bnew _ _).step hb)); have HL := hid (HL.out.below ((bnew _ _).step hb)); have HX16 := hid (keepBox ((bnew _ _).step hb) HX16.out); have pa0 : ∀ o, (w10.alloc o).cell? ⟨w9.heap.size, 0, none⟩ = some (.int .i64 4) := fun o => cell_later (bnew _ _) (cell_in HX20.out rfl); have pb0 : w10.cell? ⟨w9.heap.size, 0, none⟩ = some (.int .i64 4) := cell_in HX20.out rfl; have pa1 : ∀ o, (w10.alloc o).cell? ⟨w9.heap.size, 1, none⟩ = some (.slice sa 3 sc) := fun o => cell_later (bnew _ _) (cell_in HX20.out rfl); have pb1 : w10.cell? ⟨w9.heap.size, 1, none⟩ = some (.slice sa 3 sc) := cell_in HX20.out rfl; have pa2 : ∀ o, (w10.alloc o).cell? ⟨w9.heap.size, 2, none⟩ = some (.slice ca 8 cc2) := fun o => cell_later (bnew _ _) (cell_in HX20.out rfl); have pb2 : w10.cell? ⟨w9.heap.size, 2, none⟩ = some (.slice ca 8 cc2) := cell_in HX20.out rfl; clear hb))
  go_upto_region 16 with (first
    | (go_at_call 15; ((with_reducible refine (s_ins1 sa sc ca cc2 _ 4 _ (HL.out.below (bnew _ _)) (rd4 _ _ _ _ _)).mono ?_); rintro e w11 ⟨hb, s4, t4, u4, v4, rfl, hr⟩); have HB := hid (HB.out.step ((bnew _ _).step hb)); have HC := hid (HC.out.below ((bnew _ _).step hb)); have HQ := hid (HQ.out.below ((bnew _ _).step hb)); have HFC := hid (HFC.out.below ((bnew _ _).step hb)); have HFR := hid (HFR.out.below ((bnew _ _).step hb)); have HL := hid (HL.out.below ((bnew _ _).step hb)); have HX16 := hid (keepBox ((bnew _ _).step hb) HX16.out); have HX20 := hid (keepBox ((bnew _ _).step hb) HX20.out); have HL4 := hid hr; have qa0 : ∀ o, (w11.alloc o).cell? ⟨w9.heap.size, 0, none⟩ = some (.int .i64 4) := fun o => cell_later (bnew _ _) (cell_in HX20.out rfl); have qb0 : w11.cell? ⟨w9.heap.size, 0, none⟩ = some (.int .i64 4) := cell_in HX20.out rfl; have qa1 : ∀ o, (w11.alloc o).cell? ⟨w9.heap.size, 1, none⟩ = some (.slice sa 3 sc) := fun o => cell_later (bnew _ _) (cell_in HX20.out rfl); have qb1 : w11.cell? ⟨w9.heap.size, 1, none⟩ = some (.slice sa 3 sc) := cell_in HX20.out rfl; have qa2 : ∀ o, (w11.alloc o).cell? ⟨w9.heap.size, 2, none⟩ = some (.slice ca 8 cc2) := fun o => cell_later (bnew _ _) (cell_in HX20.out rfl); have qb2 : w11.cell? ⟨w9.heap.size, 2, none⟩ = some (.slice ca 8 cc2) := cell_in HX20.out rfl; clear hb hr)
    | (go_at_call 16; ((with_reducible refine (s_take sa sc ca cc2 _ (HL.out.below (bnew _ _))).mono ?_); rintro e w12 ⟨hb, s2, t2, u2, v2, rfl, hr⟩); have HX24 := hid (keepBox hb (heapn w11 (.cells #[.int .i64 4, .slice s4 4 t4, .slice u4 8 v4] 38) _ rfl)); have HB := hid (HB.out.step ((bnew _ _).step hb)); have HC := hid (HC.out.below ((bnew _ _).step hb)); have HQ := hid (HQ.out.below ((bnew _ _).step hb)); have HFC := hid (HFC.out.below ((bnew _ _).step hb)); have HFR := hid (HFR.out.below ((bnew _ _).step hb)); have HL := hid (HL.out.below ((bnew _ _).step hb)); have HL4 := hid (HL4.out.below ((bnew _ _).step hb)); have HX16 := hid (keepBox ((bnew _ _).step hb) HX16.out); have HX20 := hid (keepBox ((bnew _ _).step hb) HX20.out); have HL2 := hid hr; have ra0 : ∀ o, (w12.alloc o).cell? ⟨w9.heap.size, 0, none⟩ = some (.int .i64 4) := fun o => cell_later (bnew _ _) (cell_in HX20.out rfl); have rb0 : w12.cell? ⟨w9.heap.size, 0, none⟩ = some (.int .i64 4) := cell_in HX20.out rfl; have ra1 : ∀ o, (w12.alloc o).cell? ⟨w9.heap.size, 1, none⟩ = some (.slice sa 3 sc) := fun o => cell_later (bnew _ _) (cell_in HX20.out rfl); have rb1 : w12.cell? ⟨w9.heap.size, 1, none⟩ = some (.slice sa 3 sc) := cell_in HX20.out rfl; have ra2 : ∀ o, (w12.alloc o).cell? ⟨w9.heap.size, 2, none⟩ = some (.slice ca 8 cc2) := fun o => cell_later (bnew _ _) (cell_in HX20.out rfl); have rb2 : w12.cell? ⟨w9.heap.size, 2, none⟩ = some (.slice ca 8 cc2) := cell_in HX20.out rfl; clear hb hr)
    | (go_at_call 17; ((with_reducible refine (s_spare3 sa sc ca cc2 _ (HL.out.below (bnew _ _))).mono ?_); rintro e w13 ⟨rfl, hb⟩); have HX27 := hid (keepBox hb (heapn w12 (.cells #[.int .i64 4, .slice s2 3 t2, .slice u2 8 v2] 38) _ rfl)); have HB := hid (HB.out.step ((bnew _ _).step hb)); have HC := hid (HC.out.below ((bnew _ _).step hb)); have HQ := hid (HQ.out.below ((bnew _ _).step hb)); have HFC := hid (HFC.out.below ((bnew _ _).step hb)); have HFR := hid (HFR.out.below ((bnew _ _).step hb)); have HL := hid (HL.out.below ((bnew _ _).step hb)); have HL4 := hid (HL4.out.below ((bnew _ _).step hb)); have HL2 := hid (HL2.out.below ((bnew _ _).step hb)); have HX16 := hid (keepBox ((bnew _ _).step hb) HX16.out); have HX20 := hid (keepBox ((bnew _ _).step hb) HX20.out); have HX24 := hid (keepBox ((bnew _ _).step hb) HX24.out); have ra0 : ∀ o, (w13.alloc o).cell? ⟨w12.heap.size, 0, none⟩ = some (.int .i64 4) := fun o => cell_later (bnew _ _) (cell_in HX27.out rfl); have rb0 : w13.cell? ⟨w12.heap.size, 0, none⟩ = some (.int .i64 4) := cell_in HX27.out rfl; have ra1 : ∀ o, (w13.alloc o).cell? ⟨w12.heap.size, 1, none⟩ = some (.slice s2 3 t2) := fun o => cell_later (bnew _ _) (cell_in HX27.out rfl); have rb1 : w13.cell? ⟨w12.heap.size, 1, none⟩ = some (.slice s2 3 t2) := cell_in HX27.out rfl; have ra2 : ∀ o, (w13.alloc o).cell? ⟨w12.heap.size, 2, none⟩ = some (.slice u2 8 v2) := fun o => cell_later (bnew _ _) (cell_in HX27.out rfl); have rb2 : w13.cell? ⟨w12.heap.size, 2, none⟩ = some (.slice u2 8 v2) := cell_in HX27.out rfl; clear hb)
    | (go_at_call 17; ((with_reducible refine (s_spare2 s2 t2 u2 v2 _ HL2.out).mono ?_); rintro e w14 ⟨rfl, hb⟩); have HB := hid (HB.out.step hb); have HC := hid (HC.out.below hb); have HQ := hid (HQ.out.below hb); have HFC := hid (HFC.out.below hb); have HFR := hid (HFR.out.below hb); have HL := hid (HL.out.below hb); have HL4 := hid (HL4.out.below hb); have HL2 := hid (HL2.out.below hb); have HX16 := hid (keepBox hb HX16.out); have HX20 := hid (keepBox hb HX20.out); have HX24 := hid (keepBox hb HX24.out); have HX27 := hid (keepBox hb HX27.out); have sa0 : ∀ o, (w14.alloc o).cell? ⟨w12.heap.size, 0, none⟩ = some (.int .i64 4) := fun o => cell_later (bnew _ _) (cell_in HX27.out rfl); have sb0 : w14.cell? ⟨w12.heap.size, 0, none⟩ = some (.int .i64 4) := cell_in HX27.out rfl; have sa1 : ∀ o, (w14.alloc o).cell? ⟨w12.heap.size, 1, none⟩ = some (.slice s2 3 t2) := fun o => cell_later (bnew _ _) (cell_in HX27.out rfl); have sb1 : w14.cell? ⟨w12.heap.size, 1, none⟩ = some (.slice s2 3 t2) := cell_in HX27.out rfl; have sa2 : ∀ o, (w14.alloc o).cell? ⟨w12.heap.size, 2, none⟩ = some (.slice u2 8 v2) := fun o => cell_later (bnew _ _) (cell_in HX27.out rfl); have sb2 : w14.cell? ⟨w12.heap.size, 2, none⟩ = some (.slice u2 8 v2) := cell_in HX27.out rfl; clear hb)
    | (go_at_call 15; ((with_reducible refine (s_ins2 s2 t2 u2 v2 _ 4 _ (HL2.out.below (bnew _ _)) (rd4 _ _ _ _ _)).mono ?_); rintro e w15 ⟨hb, s5, t5, u5, v5, rfl, hr⟩); have HB := hid (HB.out.step ((bnew _ _).step hb)); have HC := hid (HC.out.below ((bnew _ _).step hb)); have HQ := hid (HQ.out.below ((bnew _ _).step hb)); have HFC := hid (HFC.out.below ((bnew _ _).step hb)); have HFR := hid (HFR.out.below ((bnew _ _).step hb)); have HL := hid (HL.out.below ((bnew _ _).step hb)); have HL4 := hid (HL4.out.below ((bnew _ _).step hb)); have HL2 := hid (HL2.out.below ((bnew _ _).step hb)); have HX16 := hid (keepBox ((bnew _ _).step hb) HX16.out); have HX20 := hid (keepBox ((bnew _ _).step hb) HX20.out); have HX24 := hid (keepBox ((bnew _ _).step hb) HX24.out); have HX27 := hid (keepBox ((bnew _ _).step hb) HX27.out); have HL5 := hid hr; clear hb hr))
  have hb := bnew w15 (.cells #[.int .i64 4, .slice s5 4 t5, .slice u5 8 v5] 38)
  have HX33 := hid (heapn w15 (.cells #[.int .i64 4, .slice s5 4 t5, .slice u5 8 v5] 38) _ rfl)
  have HB := hid (HB.out.step hb)
  have HC := hid (HC.out.below hb); have HQ := hid (HQ.out.below hb); have HFC := hid (HFC.out.below hb); have HFR := hid (HFR.out.below hb); have HL := hid (HL.out.below hb); have HL4 := hid (HL4.out.below hb); have HL5 := hid (HL5.out.below hb); 
  have HX16 := hid (keepBox hb HX16.out); have HX20 := hid (keepBox hb HX20.out); have HX24 := hid (keepBox hb HX24.out); 
  clear hb
  clear pa0 pa1 pa2 pb0 pb1 pb2 qa0 qa1 qa2 qb0 qb1 qb2 ra0 ra1 ra2 rb0 rb1 rb2 sa0 sa1 sa2 sb0 sb1 sb2
  generalize w15.alloc (.cells #[.int .i64 4, .slice s5 4 t5, .slice u5 8 v5] 38) = W at *
  obtain ⟨bG, oG, har, hlt, ag, cg, f1, f2⟩ := HFR.out 1 (by decide)
  subst har
  have F1 : Hid (W.cell? ⟨bG, oG + 1, none⟩ = some (.slice ag 2 cg)) := hid f1
  have F2 : Hid (RdP W ag [(1, 6), (3, 8)]) := hid f2
  have f1 := F1.out
  clear f2
  have l16 : W.cell? ⟨w7.heap.size, 1, none⟩ = some (.slice (some ⟨bG, oG, none⟩) 3 cr) := cell_in HX16.out rfl
  have l24 : W.cell? ⟨w11.heap.size, 1, none⟩ = some (.slice s4 4 t4) := cell_in HX24.out rfl
  have l33 : W.cell? ⟨w15.heap.size, 1, none⟩ = some (.slice s5 4 t5) := cell_in HX33.out rfl
  have l20 : W.cell? ⟨w9.heap.size, 2, none⟩ = some (.slice ca 8 cc2) := cell_in HX20.out rfl
  go_upto_region 20 with fail
  have q97a := fun w => eql97 1 6 1 6 w
  have q97b := fun w => eql97 3 8 3 8 w
  have G97 := g97
  rw [decide_eq_true (rfl : ((1 : Int), (6 : Int)) = (1, 6))] at q97a
  rw [decide_eq_true (rfl : ((3 : Int), (8 : Int)) = (3, 8))] at q97b
  clear f1 l16 l24 l33 l20
  obtain ⟨bR, oR, hag, hltR, g1, g2⟩ := F2.out 0 (by decide)
  obtain ⟨bR', oR', hag', _, g3, g4⟩ := F2.out 1 (by decide)
  subst hag
  cases hag'
  have G1 : Hid (W.cell? ⟨bR, oR, none⟩ = some (.int .i64 1)) := hid g1
  have G2 : Hid (W.cell? ⟨bR, oR + 1, none⟩ = some (.int .i64 6)) := hid g2
  have G3 : Hid (W.cell? ⟨bR, oR + 2, none⟩ = some (.int .i64 3)) := hid g3
  have G4 : Hid (W.cell? ⟨bR, oR + 2 + 1, none⟩ = some (.int .i64 8)) := hid g4
  clear g1 g2 g3 g4
  go_upto_region 21 with (first
    | (go_at_call 6; ((with_reducible refine (s_same [0, 0, 1, 1] [0, 0, 1, 1] 4 4 rfl rfl (by decide) (by decide) true rfl a11 _ c11 _ _ (HC.out.below (bnew _ _)) (rd4 _ _ _ _ _)).mono ?_); rintro e w16 ⟨rfl, hb⟩); have HBW := hid ((bnew W _).step hb); clear hb)
    | (go_at_call 6; ((with_reducible refine (s_same [0, 2] [0, 2] 2 2 rfl rfl (by decide) (by decide) true rfl a14 _ c14 _ _ (HQ.out.below (HBW.out.step (bnew _ _))) (rd2 _ _ _)).mono ?_); rintro e w17 ⟨rfl, hb⟩); have HBW := hid ((HBW.out.step (bnew _ _)).step hb); have l16 : w17.cell? ⟨w7.heap.size, 1, none⟩ = some (.slice (some ⟨bG, oG, none⟩) 3 cr) := cell_later HBW.out (cell_in HX16.out rfl); have f1 := cell_later HBW.out F1.out; have g1 := cell_later HBW.out G1.out; have g2 := cell_later HBW.out G2.out; have g3 := cell_later HBW.out G3.out; have g4 := cell_later HBW.out G4.out; clear hb))
  have l20 : w17.cell? ⟨w9.heap.size, 1, none⟩ = some (.slice sa 3 sc) := cell_later HBW.out (cell_in HX20.out rfl)
  clear l16 f1 g1 g2 g3 g4
  have HW := hid HBW.out
  have HLW := hid (HL.out.below HBW.out)
  have q99a := fun w => eql99 2 1 2 1 w
  have q99b := fun w => eql99 (-1) 0 (-1) 0 w
  have G99 := g99
  rw [decide_eq_true (rfl : ((2 : Int), (1 : Int)) = (2, 1))] at q99a
  rw [decide_eq_true (rfl : ((-1 : Int), (0 : Int)) = (-1, 0))] at q99b
  obtain ⟨bC, oC, hca, hltC, g1, g2⟩ := HLW.out.rc 4 (by decide)
  obtain ⟨bC', oC', hca', _, g3, g4⟩ := HLW.out.rc 5 (by decide)
  subst hca
  cases hca'
  have G1 : Hid (w17.cell? ⟨bC, oC + 8, none⟩ = some (.int .i64 2)) := hid g1
  have G2 : Hid (w17.cell? ⟨bC, oC + 8 + 1, none⟩ = some (.int .i64 1)) := hid g2
  have G3 : Hid (w17.cell? ⟨bC, oC + 10, none⟩ = some (.int .i64 (-1))) := hid g3
  have G4 : Hid (w17.cell? ⟨bC, oC + 10 + 1, none⟩ = some (.int .i64 0)) := hid g4
  have HL4W := hid (HL4.out.below HBW.out)
  have HL5W := hid (HL5.out.below HBW.out)
  obtain ⟨b4, o4, h4, hlt4, e4⟩ := HL4W.out.rs 3 (by decide)
  obtain ⟨b5, o5, h5, hlt5, e5⟩ := HL5W.out.rs 3 (by decide)
  subst h4
  subst h5
  have E4 : Hid (w17.cell? ⟨b4, o4 + 3, none⟩ = some (.int .i64 2)) := hid e4
  have E5 : Hid (w17.cell? ⟨b5, o5 + 3, none⟩ = some (.int .i64 0)) := hid e5
  clear g1 g2 g3 g4 e4 e5
  go_wp2_with (go_at_call 6; ((with_reducible refine (s_same [0, 0, 4] [0, 0, 4] 3 3 rfl rfl (by decide) (by decide) true rfl sa _ sc _ _ (HLW.out.rs.below (bnew _ _)) (rd3 _ _ _ _)).mono ?_); rintro e w18 ⟨rfl, hb⟩); have HB18 := hid ((bnew w17 _).step hb); have l20c : w18.cell? ⟨w9.heap.size, 2, none⟩ = some (.slice (some ⟨bC, oC, none⟩) 8 cc2) := cell_later (HW.out.step HB18.out) (cell_in HX20.out rfl); have l24c : w18.cell? ⟨w11.heap.size, 1, none⟩ = some (.slice (some ⟨b4, o4, none⟩) 4 t4) := cell_later (HW.out.step HB18.out) (cell_in HX24.out rfl); have l33c : w18.cell? ⟨w15.heap.size, 1, none⟩ = some (.slice (some ⟨b5, o5, none⟩) 4 t5) := cell_later (HW.out.step HB18.out) (cell_in HX33.out rfl); have g1 := cell_later HB18.out G1.out; have g2 := cell_later HB18.out G2.out; have g3 := cell_later HB18.out G3.out; have g4 := cell_later HB18.out G4.out; have e4 := cell_later HB18.out E4.out; have e5 := cell_later HB18.out E5.out; clear hb)
  go_ret
  exact ⟨rfl, HB.out.step (HW.out.step HB18.out)⟩
end Go.Proofs.Ytecpkjhfbmchgaa
