/- The program's own checker: must, of, none. The program's own checker: plus. What the steps have said, in a slice of the program's own checker. The program's own checker: proved, with its recover. The program's own checker: what CheckProof wants. -/
import Derived.Test.YtnjbahiaelehkaaD6
import Derived.Laws.StructEq
import Derived.ChangeKeysEq
import Derived.Test.YtnjbahiaelehkaaM4
import Derived.Test.YtnjbahiaelehkaaB4
import Derived.Defers
import Derived.Recover
namespace Go.Proofs.Ytnjbahiaelehkaa
open Go.RowKit


/-- What wrong{} is when it has been thrown. -/
def wrongP : List PanicEntry := [{ v := .iface 177 (.agg #[]), recovered := false }]
def MustP (b : Bool) (w : World) (e : Ending) (w' : World) : Prop := w' = w ∧ e = if b = true then .returned (.tuple #[]) else .panicked wrongP
theorem must_any (b : Bool) (w : World) : Calls Try.prog 121 #[.bool b] w (MustP b w) := by
  cases b with
  | true =>
    go_enter Try.func121, Try.ntmps121
    go_wp2
    go_end0
    exact ⟨rfl, rfl⟩
  | false =>
    go_enter Try.func121, Try.ntmps121
    go_wp2
    exact ⟨rfl, rfl, rfl⟩

def sayC (X : Nat → Int) (N : Int) : Array Value := #[.int .i64 (X 0), .int .i64 (X 1), .int .i64 (X 2), .int .i64 (X 3), .int .i64 (X 4), .int .i64 (X 5), .int .i64 (X 6), .int .i64 (X 7), .int .i64 (X 8), .int .i64 (X 9), .int .i64 (X 10), .int .i64 (X 11), .int .i64 N]
def sayV (X : Nat → Int) (N : Int) : Value := .agg (sayC X N)
/-- A block that holds what is said. -/
def SB (w : World) (g : Nat) (X : Nat → Int) (N : Int) : Prop := w.heap[g]? = some (.cells (sayC X N) 144 (0, 0))
theorem sayC_at (X : Nat → Int) (N : Int) {k : Nat} (hk : k < 12) : (sayC X N)[k]? = some (.int .i64 (X k)) := by
  match k, hk with
  | 0, _ | 1, _ | 2, _ | 3, _ | 4, _ | 5, _ | 6, _ | 7, _ | 8, _ | 9, _ | 10, _ | 11, _ => rfl
theorem sayC_set (X : Nat → Int) (N v : Int) {k : Nat} (hk : k < 12) : (sayC X N).setIfInBounds k (.int .i64 v) = sayC (fun j => if j = k then v else X j) N := by
  match k, hk with
  | 0, _ | 1, _ | 2, _ | 3, _ | 4, _ | 5, _ | 6, _ | 7, _ | 8, _ | 9, _ | 10, _ | 11, _ => rfl
theorem SB.cell {w : World} {g : Nat} {X : Nat → Int} {N : Int} (h : SB w g X N) {k : Nat} (hk : k < 12) : w.cell? ⟨g, k, none⟩ = some (.int .i64 (X k)) := cell_in h (sayC_at X N hk)
theorem SB.cellN {w : World} {g : Nat} {X : Nat → Int} {N : Int} (h : SB w g X N) : w.cell? ⟨g, 12, none⟩ = some (.int .i64 N) := cell_in h rfl
theorem SB.frozen {w : World} {g : Nat} {X : Nat → Int} {N : Int} (h : SB w g X N) (k : Nat) : w.frozen? ⟨g, k, none⟩ = false := by
  have h' : w.heap[g]? = some (.cells (sayC X N) 144 (0, 0)) := h
  simp [World.frozen?, h']
theorem SB.keep {w w' : World} {g : Nat} {X : Nat → Int} {N : Int} (h : SB w g X N) (hb : Below w.heap.size w w') : SB w' g X N := keepBox hb h
theorem SB.set {w : World} {g : Nat} {X : Nat → Int} {N : Int} (h : SB w g X N) {k : Nat} (hk : k < 12) (v : Int) : SB (w.setCell ⟨g, k, none⟩ (.int .i64 v)) g (fun j => if j = k then v else X j) N := by
  have := heap_setCell_same w g k _ 144 (.int .i64 v) h
  rw [sayC_set X N v hk] at this
  exact this
theorem SB.setN {w : World} {g : Nat} {X : Nat → Int} {N : Int} (h : SB w g X N) (v : Int) : SB (w.setCell ⟨g, 12, none⟩ (.int .i64 v)) g X v := heap_setCell_same w g 12 _ 144 (.int .i64 v) h
theorem SB.off {w : World} {g b k : Nat} {X : Nat → Int} {N : Int} {u : Value} (h : SB w g X N) (hne : g ≠ b) : SB (w.setCell ⟨b, k, none⟩ u) g X N := (Below.heap_setCell _ _ _ _ (by exact hne)).trans h
theorem SB.lt {w : World} {g : Nat} {X : Nat → Int} {N : Int} (h : SB w g X N) : g < w.heap.size := lt_of_heap h
structure Cl (w : World) (g : Nat) (X : Nat → Int) (N : Int) : Prop where
  c0 : w.cell? ⟨g, 0, none⟩ = some (.int .i64 (X 0))
  c1 : w.cell? ⟨g, 1, none⟩ = some (.int .i64 (X 1))
  c2 : w.cell? ⟨g, 2, none⟩ = some (.int .i64 (X 2))
  c3 : w.cell? ⟨g, 3, none⟩ = some (.int .i64 (X 3))
  c4 : w.cell? ⟨g, 4, none⟩ = some (.int .i64 (X 4))
  c5 : w.cell? ⟨g, 5, none⟩ = some (.int .i64 (X 5))
  c6 : w.cell? ⟨g, 6, none⟩ = some (.int .i64 (X 6))
  c7 : w.cell? ⟨g, 7, none⟩ = some (.int .i64 (X 7))
  c8 : w.cell? ⟨g, 8, none⟩ = some (.int .i64 (X 8))
  c9 : w.cell? ⟨g, 9, none⟩ = some (.int .i64 (X 9))
  c10 : w.cell? ⟨g, 10, none⟩ = some (.int .i64 (X 10))
  c11 : w.cell? ⟨g, 11, none⟩ = some (.int .i64 (X 11))
  c12 : w.cell? ⟨g, 12, none⟩ = some (.int .i64 N)
theorem SB.all {w : World} {g : Nat} {X : Nat → Int} {N : Int} (h : SB w g X N) : Cl w g X N := ⟨cell_in h rfl, cell_in h rfl, cell_in h rfl, cell_in h rfl, cell_in h rfl, cell_in h rfl, cell_in h rfl, cell_in h rfl, cell_in h rfl, cell_in h rfl, cell_in h rfl, cell_in h rfl, cell_in h rfl⟩
theorem SB.new (w : World) (X : Nat → Int) (N : Int) : SB (w.alloc (.cells (sayC X N) 144)) w.heap.size X N := heapn _ _ _ rfl

def putS (w : World) (g : Nat) (X : Nat → Int) (N : Int) : World := (((((((((((((w.setCell ⟨g, 0, none⟩ (.int .i64 (X 0))).setCell ⟨g, 1, none⟩ (.int .i64 (X 1))).setCell ⟨g, 2, none⟩ (.int .i64 (X 2))).setCell ⟨g, 3, none⟩ (.int .i64 (X 3))).setCell ⟨g, 4, none⟩ (.int .i64 (X 4))).setCell ⟨g, 5, none⟩ (.int .i64 (X 5))).setCell ⟨g, 6, none⟩ (.int .i64 (X 6))).setCell ⟨g, 7, none⟩ (.int .i64 (X 7))).setCell ⟨g, 8, none⟩ (.int .i64 (X 8))).setCell ⟨g, 9, none⟩ (.int .i64 (X 9))).setCell ⟨g, 10, none⟩ (.int .i64 (X 10))).setCell ⟨g, 11, none⟩ (.int .i64 (X 11))).setCell ⟨g, 12, none⟩ (.int .i64 N))
theorem SB.put {w : World} {g : Nat} {X0 : Nat → Int} {N0 : Int} (h : SB w g X0 N0) (X : Nat → Int) (N : Int) : SB (putS w g X N) g X N := by
  have h0 := h.set (k := 0) (by decide) (X 0)
  have h1 := h0.set (k := 1) (by decide) (X 1)
  have h2 := h1.set (k := 2) (by decide) (X 2)
  have h3 := h2.set (k := 3) (by decide) (X 3)
  have h4 := h3.set (k := 4) (by decide) (X 4)
  have h5 := h4.set (k := 5) (by decide) (X 5)
  have h6 := h5.set (k := 6) (by decide) (X 6)
  have h7 := h6.set (k := 7) (by decide) (X 7)
  have h8 := h7.set (k := 8) (by decide) (X 8)
  have h9 := h8.set (k := 9) (by decide) (X 9)
  have h10 := h9.set (k := 10) (by decide) (X 10)
  have h11 := h10.set (k := 11) (by decide) (X 11)
  have h12 := h11.setN N
  have e : (putS w g X N).heap[g]? = some (.cells (sayC _ N) 144 (0, 0)) := h12
  unfold SB
  rw [e]
  simp [sayC]
theorem SB.putBelow {w0 w : World} {n g : Nat} (h : Below n w0 w) (hg : n ≤ g) (X : Nat → Int) (N : Int) : Below n w0 (putS w g X N) := by
  unfold putS
  repeat (refine Below.setCell ?_ (by exact hg) _)
  exact h
def arrC (X : Nat → Int) : Array Value := #[.int .i64 (X 0), .int .i64 (X 1), .int .i64 (X 2), .int .i64 (X 3), .int .i64 (X 4), .int .i64 (X 5), .int .i64 (X 6), .int .i64 (X 7), .int .i64 (X 8), .int .i64 (X 9), .int .i64 (X 10), .int .i64 (X 11)]
theorem part_arr (X : Nat → Int) (w : World) {k : Nat} (hk : k < 12) : (part 3 (arrC X) (k * 1)).run Try.prog w = .ok (.int .i64 (X k)) w := by
  have a3 := Try.isAgg3
  have z3 := Try.sizeOf3
  have h : (arrC X)[k]? = some (.int .i64 (X k)) := by
    match k, hk with
    | 0, _ | 1, _ | 2, _ | 3, _ | 4, _ | 5, _ | 6, _ | 7, _ | 8, _ | 9, _ | 10, _ | 11, _ => rfl
  simp [part, go_sem, h]
theorem und142 : Try.prog.underlying 142 = some (.array 12 3) := by kernel_rfl
theorem cells3 : Try.prog.cellsOf 3 = 1 := by kernel_rfl
theorem eq_items (d : Nat) (X Y : Nat → Int) (w : World) : ∀ is : List Nat, (∀ i, i ∈ is → i < 12) → (Op.eqItems (d + 1) 3 1 (arrC X) (arrC Y) is).run Try.prog w = .ok (is.all fun k => X k == Y k) w
  | [], _ => by simp [Op.eqItems]
  | i :: is, h => by
    have h1 := part_arr X w (h i (by simp))
    have h2 := part_arr Y w (h i (by simp))
    have h3 := run_equalIn_int w d 3 .i64 .i64 (X i) (Y i) Try.underlying3
    simp only [Op.eqItems, Sem.run_bind, h1, h2, h3, Result.andThen_ok]
    cases e : (X i == Y i) with
    | false =>
      simp only [e, Bool.not_false, if_true, Sem.run_pure, List.all_cons, Bool.false_and]
    | true =>
      have := eq_items d X Y w is fun j hj => h j (by simp [hj])
      simp only [e, Bool.not_true, Bool.false_eq_true, if_false, List.all_cons, Bool.true_and]
      exact this
theorem eq142 (d : Nat) (X Y : Nat → Int) (w : World) : (Op.equalIn (d + 2) 142 (.agg (arrC X)) (.agg (arrC Y))).run Try.prog w = .ok ((List.range 12).all fun k => X k == Y k) w := by
  obtain ⟨i, hi, _⟩ := info_parts info3
  rw [run_equalIn_array w (d + 1) (arrC X) (arrC Y) und142 hi, cells3]
  exact eq_items d X Y w _ fun j hj => List.mem_range.1 hj

set_option maxRecDepth 100000 in
set_option maxHeartbeats 1000000 in
theorem of_say (A P B Q M : Int) (w : World) (hA : 0 ≤ A ∧ A < 12) (hB : 0 ≤ B ∧ B < 12) (hne : Q ≠ 0 → A ≠ B) (hB0 : Q = 0 → B = 0) :
    Calls Try.prog 92 #[.agg #[.int .i64 A, .int .i64 P, .int .i64 B, .int .i64 Q, .int .i64 M]] w (RetB (sayV (lnX ⟨A, P, B, Q, M⟩) M) w) := by
  obtain ⟨K, rfl⟩ : ∃ K : Nat, A = (K : Int) := ⟨A.toNat, by omega⟩
  obtain ⟨L, rfl⟩ : ∃ L : Nat, B = (L : Int) := ⟨B.toNat, by omega⟩
  have hk0 : (0 : Int) ≤ K := by omega
  have hk1 : (K : Int) < 12 := by omega
  have hl0 : (0 : Int) ≤ L := by omega
  have hl1 : (L : Int) < 12 := by omega
  have hk12 : K < 12 := by omega
  have hl12 : L < 12 := by omega
  go_enter Try.func92, Try.ntmps92
  have HB : Hid (Below w.heap.size w (((w.alloc (.cells #[.int .i64 K, .int .i64 P, .int .i64 L, .int .i64 Q, .int .i64 M] 24)).alloc (.cells (sayC (fun _ => 0) 0) 144)).alloc (.cells (sayC (fun _ => 0) M) 144))) := hid (bmore (bmore (bnew _ _) _) _)
  have HX : Hid ((((w.alloc (.cells #[.int .i64 K, .int .i64 P, .int .i64 L, .int .i64 Q, .int .i64 M] 24)).alloc (.cells (sayC (fun _ => 0) 0) 144)).alloc (.cells (sayC (fun _ => 0) M) 144)).heap[w.heap.size]? = some (.cells #[.int .i64 K, .int .i64 P, .int .i64 L, .int .i64 Q, .int .i64 M] 24 (0, 0))) := hid (by simp only [heap_alloc_if, World.size_alloc] <;> simp <;> omega)
  have HR : Hid (SB (((w.alloc (.cells #[.int .i64 K, .int .i64 P, .int .i64 L, .int .i64 Q, .int .i64 M] 24)).alloc (.cells (sayC (fun _ => 0) 0) 144)).alloc (.cells (sayC (fun _ => 0) M) 144)) (w.heap.size + 1) (fun _ => 0) 0) := hid (by unfold SB; simp only [heap_alloc_if, World.size_alloc] <;> simp <;> omega)
  have HS : Hid (SB (((w.alloc (.cells #[.int .i64 K, .int .i64 P, .int .i64 L, .int .i64 Q, .int .i64 M] 24)).alloc (.cells (sayC (fun _ => 0) 0) 144)).alloc (.cells (sayC (fun _ => 0) M) 144)) (w.heap.size + 1 + 1) (fun _ => 0) M) := hid (by unfold SB; simp only [heap_alloc_if, World.size_alloc] <;> simp <;> omega)
  go_upto_region 2 with fail
  change Code.wp _ _ _ _ (((w.alloc (.cells #[.int .i64 K, .int .i64 P, .int .i64 L, .int .i64 Q, .int .i64 M] 24)).alloc (.cells (sayC (fun _ => 0) 0) 144)).alloc (.cells (sayC (fun _ => 0) M) 144))
  generalize (((w.alloc (.cells #[.int .i64 K, .int .i64 P, .int .i64 L, .int .i64 Q, .int .i64 M] 24)).alloc (.cells (sayC (fun _ => 0) 0) 144)).alloc (.cells (sayC (fun _ => 0) M) 144)) = W1 at *
  obtain ⟨g0, hg0⟩ : ∃ g, g = w.heap.size := ⟨_, rfl⟩
  have H0 := hid hg0
  rw [← hg0] at HX HR HS ⊢
  clear hg0
  generalize hg1 : g0 + 1 = g1 at *
  generalize hg2 : g1 + 1 = g2 at *
  have HG := hid (And.intro hg1 hg2)
  clear hg1 hg2
  obtain ⟨k0, k1, k2, k3, k4⟩ := AMat.of (x := ⟨K, P, L, Q, M⟩) HX.out
  simp only [Nat.zero_add] at k0 k1 k2 k3 k4
  have c1 := HS.out.cell hk12
  have f1 := HS.out.frozen K
  go_upto_region 3 with fail
  have HS := hid (HS.out.set hk12 P)
  have HR := hid (HR.out.off (b := g2) (k := K) (u := .int .i64 P) (by have := HG.out; omega))
  have HX : Hid ((W1.setCell ⟨g2, K, none⟩ (.int .i64 P)).heap[g0]? = some (.cells #[.int .i64 K, .int .i64 P, .int .i64 L, .int .i64 Q, .int .i64 M] 24 (0, 0))) := hid ((Below.heap_setCell _ _ _ _ (by have := HG.out; show g0 ≠ g2; omega)).trans HX.out)
  have HB := hid (Below.setCell HB.out (p := ⟨g2, K, none⟩) (by have := HG.out; have := H0.out; show w.heap.size ≤ g2; omega) (.int .i64 P))
  generalize W1.setCell ⟨g2, K, none⟩ (.int .i64 P) = W2 at *
  clear k0 k1 k2 k3 k4 c1 f1
  obtain ⟨k0, k1, k2, k3, k4⟩ := AMat.of (x := ⟨K, P, L, Q, M⟩) HX.out
  simp only [Nat.zero_add] at k0 k1 k2 k3 k4
  by_cases hq : Q = 0
  · have hq' : (Q != 0) = false := by simpa using hq
    have hX : (fun j => if j = K then P else (0 : Int)) = lnX ⟨K, P, L, Q, M⟩ := by
      funext j
      dsimp only [lnX]
      have hL := hB0 hq
      subst hq
      by_cases h1 : j = K <;> simp [h1]
      intro e
      omega
    have HS := hid (by have := HS.out; rwa [hX] at this : SB W2 g2 (lnX ⟨K, P, L, Q, M⟩) M)
    clear hX
    go_upto_region 5 with fail
    clear k0 k1 k2 k3 k4
    obtain ⟨c0, c1, c2, c3, c4, c5, c6, c7, c8, c9, c10, c11, c12⟩ := HS.out.all
    generalize lnX ⟨K, P, L, Q, M⟩ = X at *
    have f0 := HR.out.frozen 0
    have f1 := HR.out.frozen 1
    have f2 := HR.out.frozen 2
    have f3 := HR.out.frozen 3
    have f4 := HR.out.frozen 4
    have f5 := HR.out.frozen 5
    have f6 := HR.out.frozen 6
    have f7 := HR.out.frozen 7
    have f8 := HR.out.frozen 8
    have f9 := HR.out.frozen 9
    have f10 := HR.out.frozen 10
    have f11 := HR.out.frozen 11
    have f12 := HR.out.frozen 12
    obtain ⟨d0, d1, d2, d3, d4, d5, d6, d7, d8, d9, d10, d11, d12⟩ := HR.out.all
    go_wp2
    have HF := hid (HR.out.put X M)
    have HB := hid (SB.putBelow HB.out (g := g1) (by have := HG.out; have := H0.out; omega) X M)
    change bodyPost _ _ _ _ _ (putS _ g1 X M)
    generalize putS _ g1 X M = W9 at *
    obtain ⟨e0, e1, e2, e3, e4, e5, e6, e7, e8, e9, e10, e11, e12⟩ := HF.out.all
    refine bodyPost_ret (v := sayV X M) (by simp [results, Try.results92, go_sem, sayV, sayC, e0, e1, e2, e3, e4, e5, e6, e7, e8, e9, e10, e11, e12]) rfl ⟨rfl, HB.out⟩
  · have hq' : (Q != 0) = true := by simpa using hq
    have c1 := HS.out.cell hl12
    have f1 := HS.out.frozen L
    go_upto_region 5 with fail
    have hX : (fun j => if j = L then Q else if j = K then P else (0 : Int)) = lnX ⟨K, P, L, Q, M⟩ := by
      funext j
      dsimp only [lnX]
      have hL := hne hq
      by_cases h1 : j = L
      · subst h1
        rw [if_pos rfl, if_neg (by omega), if_pos rfl]
        omega
      · rw [if_neg h1, if_neg (by omega : ¬((j : Int) = (L : Int)))]
        by_cases h2 : j = K <;> simp [h2]
        intro e
        omega
    have HS := hid (HS.out.set hl12 Q)
    have HS := hid (by have := HS.out; rwa [hX] at this : SB (W2.setCell ⟨g2, L, none⟩ (.int .i64 Q)) g2 (lnX ⟨K, P, L, Q, M⟩) M)
    have HR := hid (HR.out.off (b := g2) (k := L) (u := .int .i64 Q) (by have := HG.out; omega))
    have HB := hid (Below.setCell HB.out (p := ⟨g2, L, none⟩) (by have := HG.out; have := H0.out; show w.heap.size ≤ g2; omega) (.int .i64 Q))
    generalize W2.setCell ⟨g2, L, none⟩ (.int .i64 Q) = W3 at *
    clear k0 k1 k2 k3 k4 c1 f1 hX
    obtain ⟨c0, c1, c2, c3, c4, c5, c6, c7, c8, c9, c10, c11, c12⟩ := HS.out.all
    generalize lnX ⟨K, P, L, Q, M⟩ = X at *
    have f0 := HR.out.frozen 0
    have f1 := HR.out.frozen 1
    have f2 := HR.out.frozen 2
    have f3 := HR.out.frozen 3
    have f4 := HR.out.frozen 4
    have f5 := HR.out.frozen 5
    have f6 := HR.out.frozen 6
    have f7 := HR.out.frozen 7
    have f8 := HR.out.frozen 8
    have f9 := HR.out.frozen 9
    have f10 := HR.out.frozen 10
    have f11 := HR.out.frozen 11
    have f12 := HR.out.frozen 12
    obtain ⟨d0, d1, d2, d3, d4, d5, d6, d7, d8, d9, d10, d11, d12⟩ := HR.out.all
    go_wp2
    have HF := hid (HR.out.put X M)
    have HB := hid (SB.putBelow HB.out (g := g1) (by have := HG.out; have := H0.out; omega) X M)
    change bodyPost _ _ _ _ _ (putS _ g1 X M)
    generalize putS _ g1 X M = W9 at *
    obtain ⟨e0, e1, e2, e3, e4, e5, e6, e7, e8, e9, e10, e11, e12⟩ := HF.out.all
    refine bodyPost_ret (v := sayV X M) (by simp [results, Try.results92, go_sem, sayV, sayC, e0, e1, e2, e3, e4, e5, e6, e7, e8, e9, e10, e11, e12]) rfl ⟨rfl, HB.out⟩
set_option maxRecDepth 100000 in
set_option maxHeartbeats 1000000 in
theorem none_say (X : Nat → Int) (N : Int) (w : World) :
    Calls Try.prog 91 #[sayV X N] w (RetB (.bool (noneS 12 ⟨X, N⟩)) w) := by
  have q := fun w => eq142 9998 X (fun _ => 0) w
  simp only [arrC] at q
  have g142 : Try.prog.eqGuardType Try.prog.depth 142 = false := by kernel_rfl
  obtain ⟨b, hb⟩ : ∃ b, b = (List.range 12).all fun k => X k == 0 := ⟨_, rfl⟩
  simp only [← hb] at q
  have he : noneS 12 ⟨X, N⟩ = (b && decide (N < 0)) := by
    unfold noneS zeroX
    rw [hb]
    congr 1
    rw [Bool.eq_iff_iff]
    simp
  have HE := hid he
  clear hb he
  unfold sayV sayC
  cases b
  all_goals
    go_enter Try.func91, Try.ntmps91
    go_wp2
    go_ret
    refine ⟨ret_bool (by rw [HE.out]; try rfl), ?_⟩
    exact bnew _ _


theorem must_yes (w : World) : Calls Try.prog 121 #[.bool true] w (fun e w' => w' = w ∧ e = .returned (.tuple #[])) := (must_any true w).mono fun _ _ h => ⟨h.1, h.2⟩
theorem must_no (w : World) : Calls Try.prog 121 #[.bool false] w (fun e w' => w' = w ∧ e = .panicked wrongP) := (must_any false w).mono fun _ _ h => ⟨h.1, h.2⟩
set_option maxRecDepth 100000 in
set_option maxHeartbeats 4000000 in
theorem plus_say (X Y : Nat → Int) (N M : Int) (w : World) (hX : okX 12 X = true) (hY : okX 12 Y = true) (hN : okN N = true) (hM : okN M = true) :
    Calls Try.prog 122 #[sayV X N, sayV Y M] w (RetB (sayV (fun k => X k + Y k) (N + M)) w) := by
  have hX' : ∀ k, k < 12 → -100 ≤ X k ∧ X k ≤ 100 := by simpa [okX] using hX
  have hY' : ∀ k, k < 12 → -100 ≤ Y k ∧ Y k ≤ 100 := by simpa [okX] using hY
  have hN' : -1125899906842624 ≤ N ∧ N ≤ 1125899906842624 := by simpa [okN] using hN
  have hM' : -1125899906842624 ≤ M ∧ M ≤ 1125899906842624 := by simpa [okN] using hM
  have HXY := hid (And.intro hX' hY')
  have HNM := hid (And.intro hN' hM')
  clear hX hY hN hM hX' hY' hN' hM'
  have HB : Hid (Below w.heap.size w (((w.alloc (.cells (sayC X N) 144)).alloc (.cells (sayC Y M) 144)).alloc (.cells (sayC (fun _ => 0) 0) 144))) := hid (bmore (bmore (bnew _ _) _) _)
  have H2 : Hid (SB (((w.alloc (.cells (sayC X N) 144)).alloc (.cells (sayC Y M) 144)).alloc (.cells (sayC (fun _ => 0) 0) 144)) w.heap.size X N) := hid (by unfold SB; simp only [heap_alloc_if, World.size_alloc] <;> simp <;> omega)
  have H3 : Hid (SB (((w.alloc (.cells (sayC X N) 144)).alloc (.cells (sayC Y M) 144)).alloc (.cells (sayC (fun _ => 0) 0) 144)) (w.heap.size + 1) Y M) := hid (by unfold SB; simp only [heap_alloc_if, World.size_alloc] <;> simp <;> omega)
  have H4 : Hid (SB (((w.alloc (.cells (sayC X N) 144)).alloc (.cells (sayC Y M) 144)).alloc (.cells (sayC (fun _ => 0) 0) 144)) (w.heap.size + 1 + 1) (fun _ => 0) 0) := hid (by unfold SB; simp only [heap_alloc_if, World.size_alloc] <;> simp <;> omega)
  unfold sayV
  go_enter Try.func122, Try.ntmps122
  go_upto_region 1 with fail
  change Code.wp _ _ _ _ (((w.alloc (.cells (sayC X N) 144)).alloc (.cells (sayC Y M) 144)).alloc (.cells (sayC (fun _ => 0) 0) 144))
  generalize (((w.alloc (.cells (sayC X N) 144)).alloc (.cells (sayC Y M) 144)).alloc (.cells (sayC (fun _ => 0) 0) 144)) = W1 at *
  obtain ⟨g2, hg2⟩ : ∃ g, g = w.heap.size := ⟨_, rfl⟩
  have H0 := hid hg2
  rw [← hg2] at H2 H3 H4 ⊢
  clear hg2
  generalize hg3 : g2 + 1 = g3 at *
  generalize hg4 : g3 + 1 = g4 at *
  have HG := hid (And.intro hg3 hg4)
  clear hg3 hg4
  go_wp2
  go_loopw [6] (fun s6 wr => ∃ k : Nat, k ≤ 12 ∧ s6 = .int .i64 k ∧ Hid (Below w.heap.size w wr ∧ SB wr g2 (fun j => if j < k then X j + Y j else X j) N ∧ SB wr g3 Y M ∧ SB wr g4 (fun _ => 0) 0)) (fun s _ => 12 - (intOf s).toNat)
  case atStart => exact ⟨0, Nat.zero_le _, rfl, hid ⟨HB.out, by simpa using H2.out, H3.out, H4.out⟩⟩
  case round =>
    obtain ⟨k, hk, rfl, HR⟩ := hrel
    by_cases hlt : k < 12
    · have c2 := HR.out.2.1.cell hlt
      have f2 := HR.out.2.1.frozen k
      have c3 := HR.out.2.2.1.cell hlt
      rw [if_neg (Nat.lt_irrefl k)] at c2
      obtain ⟨x, hx⟩ : ∃ x, x = X k := ⟨_, rfl⟩
      obtain ⟨y, hy⟩ : ∃ y, y = Y k := ⟨_, rfl⟩
      rw [← hx] at c2
      rw [← hy] at c3
      have b1 := HXY.out.1 k hlt
      have b2 := HXY.out.2 k hlt
      rw [← hx] at b1
      rw [← hy] at b2
      have wr1 : IntKind.i64.wrap (x + y) = x + y := wrapk ⟨by omega, by omega⟩
      have HE := hid (And.intro hx hy)
      have hk0 : (0 : Int) ≤ k := by omega
      have hk1 : (k : Int) < 12 := by omega
      clear hx hy b1 b2
      go_upto_region 4 with fail
      go_still_tail 11, (by kernel_rfl)
      change wpList _ _ _ _ _ wr.drew
      clear wr1 c2 c3 f2
      have c2 := (HR.out.2.1.keep (bdrew wr)).cell hlt
      have f2 := (HR.out.2.1.keep (bdrew wr)).frozen k
      have HR := hid (And.intro (HR.out.1.step (bdrew wr)) (And.intro (HR.out.2.1.keep (bdrew wr)) (And.intro (HR.out.2.2.1.keep (bdrew wr)) (HR.out.2.2.2.keep (bdrew wr)))))
      generalize wr.drew = wd at *
      go_wp2
      go_roundw
      case rel =>
        refine ⟨k + 1, by omega, by go_num, hid ⟨Below.setCell HR.out.1 (by have := HG.out; have := H0.out; show w.heap.size ≤ g2; omega) _, ?_, HR.out.2.2.1.off (by have := HG.out; omega), HR.out.2.2.2.off (by have := HG.out; omega)⟩⟩
        have hs := HR.out.2.1.set hlt (x + y)
        rw [HE.out.1, HE.out.2] at hs
        have e : (fun j => if j = k then X k + Y k else if j < k then X j + Y j else X j) = fun j => if j < k + 1 then X j + Y j else X j := by
          funext j
          by_cases h1 : j = k
          · subst h1
            rw [if_pos rfl, if_pos (Nat.lt_succ_self _)]
          · by_cases h2 : j < k
            · rw [if_neg h1, if_pos h2, if_pos (by omega)]
            · rw [if_neg h1, if_neg h2, if_neg (by omega)]
        rw [e] at hs
        rw [HE.out.1, HE.out.2]
        exact hs
      case measure => simp [intOf]; omega
    · have hke : k = 12 := by omega
      subst hke
      obtain ⟨b1, b2⟩ := HNM.out
      have wr1 : IntKind.i64.wrap (N + M) = N + M := wrapk ⟨by omega, by omega⟩
      have HS : Hid (SB wr g2 (fun j => X j + Y j) N) := hid (by
        have := HR.out.2.1
        unfold SB at this ⊢
        rw [this]
        simp [sayC])
      have H3 := hid HR.out.2.2.1
      have H4 := hid HR.out.2.2.2
      have HB := hid HR.out.1
      have n2 := HS.out.cellN
      have n3 := H3.out.cellN
      have f2 := HS.out.frozen 12
      clear b1 b2 HR hk hlt
      go_upto_region 7 with fail
      have HS := hid (HS.out.setN (N + M))
      have H4 := hid (H4.out.off (b := g2) (k := 12) (u := .int .i64 (N + M)) (by have := HG.out; omega))
      have HB := hid (Below.setCell HB.out (p := ⟨g2, 12, none⟩) (by have := HG.out; have := H0.out; show w.heap.size ≤ g2; omega) (.int .i64 (N + M)))
      clear n2 n3 f2 wr1
      generalize wr.setCell ⟨g2, 12, none⟩ (.int .i64 (N + M)) = W8 at *
      generalize hF : (fun j => X j + Y j) = F at *
      generalize hT : N + M = T at *
      have HFT := hid (And.intro hF hT)
      clear hF hT
      obtain ⟨c0, c1, c2, c3, c4, c5, c6, c7, c8, c9, c10, c11, c12⟩ := HS.out.all
      obtain ⟨d0, d1, d2, d3, d4, d5, d6, d7, d8, d9, d10, d11, d12⟩ := H4.out.all
      have f0 := H4.out.frozen 0
      have f1 := H4.out.frozen 1
      have f2 := H4.out.frozen 2
      have f3 := H4.out.frozen 3
      have f4 := H4.out.frozen 4
      have f5 := H4.out.frozen 5
      have f6 := H4.out.frozen 6
      have f7 := H4.out.frozen 7
      have f8 := H4.out.frozen 8
      have f9 := H4.out.frozen 9
      have f10 := H4.out.frozen 10
      have f11 := H4.out.frozen 11
      have f12 := H4.out.frozen 12
      go_wp2
      have HF := hid (H4.out.put F T)
      have HB := hid (SB.putBelow HB.out (g := g4) (by have := HG.out; have := H0.out; omega) F T)
      change bodyPost _ _ _ _ _ (putS _ g4 F T)
      generalize putS _ g4 F T = W9 at *
      obtain ⟨e0, e1, e2, e3, e4, e5, e6, e7, e8, e9, e10, e11, e12⟩ := HF.out.all
      refine bodyPost_ret (v := sayV F T) (by simp [results, Try.results122, go_sem, sayV, sayC, e0, e1, e2, e3, e4, e5, e6, e7, e8, e9, e10, e11, e12]) rfl ⟨by rw [HFT.out.1, HFT.out.2]; rfl, HB.out⟩

/-- What halving says: half, or that it cannot be. -/
def HalfP (X : Nat → Int) (N : Int) (w : World) (e : Ending) (w' : World) : Prop := Below w.heap.size w w' ∧ e = if evenX 12 X = true then .returned (sayV (fun k => X k / 2) (N / 2)) else .panicked wrongP
set_option maxRecDepth 100000 in
set_option maxHeartbeats 4000000 in
theorem half_say (X : Nat → Int) (N : Int) (w : World) (hX : okX 12 X = true) (hN : okN N = true) :
    Calls Try.prog 123 #[sayV X N] w (HalfP X N w) := by
  have hX' : ∀ k, k < 12 → -100 ≤ X k ∧ X k ≤ 100 := by simpa [okX] using hX
  have hN' : -1125899906842624 ≤ N ∧ N ≤ 1125899906842624 := by simpa [okN] using hN
  have HXY := hid hX'
  have HNM := hid hN'
  clear hX hN hX' hN'
  have HB : Hid (Below w.heap.size w ((w.alloc (.cells (sayC X N) 144)).alloc (.cells (sayC (fun _ => 0) 0) 144))) := hid (bmore (bnew _ _) _)
  have H2 : Hid (SB ((w.alloc (.cells (sayC X N) 144)).alloc (.cells (sayC (fun _ => 0) 0) 144)) w.heap.size X N) := hid (by unfold SB; simp only [heap_alloc_if, World.size_alloc] <;> simp)
  have H4 : Hid (SB ((w.alloc (.cells (sayC X N) 144)).alloc (.cells (sayC (fun _ => 0) 0) 144)) (w.heap.size + 1) (fun _ => 0) 0) := hid (by unfold SB; simp only [heap_alloc_if, World.size_alloc] <;> simp)
  unfold sayV
  go_enter Try.func123, Try.ntmps123
  go_upto_region 1 with fail
  change Code.wp _ _ _ _ ((w.alloc (.cells (sayC X N) 144)).alloc (.cells (sayC (fun _ => 0) 0) 144))
  generalize ((w.alloc (.cells (sayC X N) 144)).alloc (.cells (sayC (fun _ => 0) 0) 144)) = W1 at *
  obtain ⟨g2, hg2⟩ : ∃ g, g = w.heap.size := ⟨_, rfl⟩
  have H0 := hid hg2
  rw [← hg2] at H2 H4 ⊢
  clear hg2
  generalize hg4 : g2 + 1 = g4 at *
  have HG := hid hg4
  clear hg4
  go_wp2
  go_loopw [4] (fun s6 wr => ∃ k : Nat, k ≤ 12 ∧ s6 = .int .i64 k ∧ Hid (Below w.heap.size w wr ∧ SB wr g2 (fun j => if j < k then X j / 2 else X j) N ∧ SB wr g4 (fun _ => 0) 0 ∧ ∀ j, j < k → X j % 2 = 0)) (fun s _ => 12 - (intOf s).toNat)
  case atStart => exact ⟨0, Nat.zero_le _, rfl, hid ⟨HB.out, by simpa using H2.out, H4.out, fun j hj => absurd hj (Nat.not_lt_zero j)⟩⟩
  case round =>
    obtain ⟨k, hk, rfl, HR⟩ := hrel
    by_cases hlt : k < 12
    · have c2 := HR.out.2.1.cell hlt
      have f2 := HR.out.2.1.frozen k
      rw [if_neg (Nat.lt_irrefl k)] at c2
      obtain ⟨x, hx⟩ : ∃ x, x = X k := ⟨_, rfl⟩
      rw [← hx] at c2
      have b1 := HXY.out k hlt
      rw [← hx] at b1
      have HE := hid hx
      have hk0 : (0 : Int) ≤ k := by omega
      have hk1 : (k : Int) < 12 := by omega
      clear hx
      by_cases he : x % 2 = 0
      · have e1 : x.tmod 2 = 0 := Int.tmod_eq_zero_of_dvd (by omega)
        have e2 : x.tdiv 2 = x / 2 := Int.tdiv_eq_ediv_of_dvd (by omega)
        have e3 : (x.tmod 2 == 0) = true := by simp [e1]
        have e4 : IntKind.i64.wrap (x.tmod 2) = x.tmod 2 := wrapk ⟨by omega, by omega⟩
        have e5 : IntKind.i64.wrap (x.tdiv 2) = x / 2 := by rw [e2]; exact wrapk ⟨by omega, by omega⟩
        clear e1 e2
        go_upto_region 6 with (go_at_call 121; (with_reducible refine (must_yes _).mono ?_); rintro e w1 ⟨rfl, rfl⟩)
        go_wp2
        go_roundw
        case rel =>
          refine ⟨k + 1, by omega, by go_num, hid ⟨Below.setCell HR.out.1 (by have := HG.out; have := H0.out; show w.heap.size ≤ g2; omega) _, ?_, HR.out.2.2.1.off (by have := HG.out; omega), ?_⟩⟩
          · have hs := HR.out.2.1.set hlt (x / 2)
            rw [HE.out] at hs ⊢
            have e : (fun j => if j = k then X k / 2 else if j < k then X j / 2 else X j) = fun j => if j < k + 1 then X j / 2 else X j := by
              funext j
              by_cases h1 : j = k
              · subst h1
                rw [if_pos rfl, if_pos (Nat.lt_succ_self _)]
              · by_cases h2 : j < k
                · rw [if_neg h1, if_pos h2, if_pos (by omega)]
                · rw [if_neg h1, if_neg h2, if_neg (by omega)]
            rw [e] at hs
            exact hs
          · intro j hj
            by_cases h1 : j = k
            · rw [h1, ← HE.out]
              exact he
            · exact HR.out.2.2.2 j (by omega)
        case measure => simp [intOf]; omega
      · have e1 : x.tmod 2 ≠ 0 := fun h => he (by have := Int.dvd_of_tmod_eq_zero h; omega)
        have e3 : (x.tmod 2 == 0) = false := by simp [e1]
        go_wp2_with (go_at_call 121; (with_reducible refine (must_no _).mono ?_); rintro e w1 ⟨rfl, rfl⟩)
        refine ⟨rfl, HR.out.1, ?_⟩
        rw [if_neg]
        intro h
        simp only [evenX, decide_eq_true_eq] at h
        exact he (by rw [HE.out]; exact h k hlt)
    · have hke : k = 12 := by omega
      subst hke
      have hev : evenX 12 X = true := by
        simp only [evenX, decide_eq_true_eq]
        exact HR.out.2.2.2
      have HEV := hid hev
      have HS : Hid (SB wr g2 (fun j => X j / 2) N) := hid (by
        have := HR.out.2.1
        unfold SB at this ⊢
        rw [this]
        simp [sayC])
      have H4 := hid HR.out.2.2.1
      have HB := hid HR.out.1
      have n2 := HS.out.cellN
      have f2 := HS.out.frozen 12
      clear HR hk hlt hev
      go_upto_region 8 with (go_at_call 97; (with_reducible refine (floor_any _ _).mono ?_); rintro e w1 ⟨rfl, rfl⟩)
      have HS := hid (HS.out.setN (N / 2))
      have H4 := hid (H4.out.off (b := g2) (k := 12) (u := .int .i64 (N / 2)) (by have := HG.out; omega))
      have HB := hid (Below.setCell HB.out (p := ⟨g2, 12, none⟩) (by have := HG.out; have := H0.out; show w.heap.size ≤ g2; omega) (.int .i64 (N / 2)))
      clear n2 f2
      generalize wr.setCell ⟨g2, 12, none⟩ (.int .i64 (N / 2)) = W8 at *
      generalize hF : (fun j => X j / 2) = F at *
      generalize hT : N / 2 = T at *
      have HFT := hid (And.intro hF hT)
      clear hF hT
      obtain ⟨c0, c1, c2, c3, c4, c5, c6, c7, c8, c9, c10, c11, c12⟩ := HS.out.all
      obtain ⟨d0, d1, d2, d3, d4, d5, d6, d7, d8, d9, d10, d11, d12⟩ := H4.out.all
      have f0 := H4.out.frozen 0
      have f1 := H4.out.frozen 1
      have f2 := H4.out.frozen 2
      have f3 := H4.out.frozen 3
      have f4 := H4.out.frozen 4
      have f5 := H4.out.frozen 5
      have f6 := H4.out.frozen 6
      have f7 := H4.out.frozen 7
      have f8 := H4.out.frozen 8
      have f9 := H4.out.frozen 9
      have f10 := H4.out.frozen 10
      have f11 := H4.out.frozen 11
      have f12 := H4.out.frozen 12
      go_wp2
      have HF := hid (H4.out.put F T)
      have HB := hid (SB.putBelow HB.out (g := g4) (by have := HG.out; have := H0.out; omega) F T)
      change bodyPost _ _ _ _ _ (putS _ g4 F T)
      generalize putS _ g4 F T = W9 at *
      obtain ⟨e0, e1, e2, e3, e4, e5, e6, e7, e8, e9, e10, e11, e12⟩ := HF.out.all
      refine bodyPost_ret (v := sayV F T) (by simp [results, Try.results123, go_sem, sayV, sayC, e0, e1, e2, e3, e4, e5, e6, e7, e8, e9, e10, e11, e12]) rfl ⟨HB.out, ?_⟩
      rw [if_pos HEV.out, HFT.out.1, HFT.out.2]


def sc (s : Sy) : List Value := (sayC s.X s.N).toList
theorem sc_length (s : Sy) : (sc s).length = 13 := rfl
theorem sc_all (l : List Sy) : (l.flatMap sc).length = l.length * 13 := by
  induction l with
  | nil => rfl
  | cons x l ih =>
    rw [List.flatMap_cons, List.length_append, ih, sc_length, List.length_cons]
    omega
theorem sc_at (l : List Sy) (i : Nat) (h : i < l.length) (k : Nat) (hk : k < 13) : (l.flatMap sc)[i * 13 + k]? = (sc l[i])[k]? := by
  induction l generalizing i with
  | nil => exact absurd h (Nat.not_lt_zero _)
  | cons x l ih =>
    have hx : (sc x).length = 13 := rfl
    cases i with
    | zero =>
      rw [List.flatMap_cons, List.getElem?_append_left (by omega)]
      simp
    | succ i =>
      rw [List.flatMap_cons, List.getElem?_append_right (by omega)]
      have e : (i + 1) * 13 + k - (sc x).length = i * 13 + k := by omega
      rw [e]
      exact ih i (by simpa using h)
theorem sc_one (l : List Sy) : ∀ u ∈ l.flatMap sc, u.oneCell' = true := by
  intro u hu
  rw [List.mem_flatMap] at hu
  obtain ⟨x, _, hx⟩ := hu
  simp [sc, sayC] at hx
  rcases hx with rfl | rfl | rfl | rfl | rfl | rfl | rfl | rfl | rfl | rfl | rfl | rfl | rfl <;> rfl
/-- What the steps so far say, in a slice of the call's own. -/
def OwnQ (w : World) (base : Nat) (v : Value) (done : List Sy) : Prop := w.ownsRow base 144 13 v done.length (done.flatMap sc)
/-- The cells of one saying. -/
structure Cq (w : World) (b o : Nat) (X : Nat → Int) (N : Int) : Prop where
  c0 : w.cell? ⟨b, o, none⟩ = some (.int .i64 (X 0))
  c1 : w.cell? ⟨b, o + 1, none⟩ = some (.int .i64 (X 1))
  c2 : w.cell? ⟨b, o + 2, none⟩ = some (.int .i64 (X 2))
  c3 : w.cell? ⟨b, o + 3, none⟩ = some (.int .i64 (X 3))
  c4 : w.cell? ⟨b, o + 4, none⟩ = some (.int .i64 (X 4))
  c5 : w.cell? ⟨b, o + 5, none⟩ = some (.int .i64 (X 5))
  c6 : w.cell? ⟨b, o + 6, none⟩ = some (.int .i64 (X 6))
  c7 : w.cell? ⟨b, o + 7, none⟩ = some (.int .i64 (X 7))
  c8 : w.cell? ⟨b, o + 8, none⟩ = some (.int .i64 (X 8))
  c9 : w.cell? ⟨b, o + 9, none⟩ = some (.int .i64 (X 9))
  c10 : w.cell? ⟨b, o + 10, none⟩ = some (.int .i64 (X 10))
  c11 : w.cell? ⟨b, o + 11, none⟩ = some (.int .i64 (X 11))
  c12 : w.cell? ⟨b, o + 12, none⟩ = some (.int .i64 N)
theorem Cq.later {w w' : World} {b o : Nat} {X : Nat → Int} {N : Int} (h : Cq w b o X N) (hb : Below w.heap.size w w') : Cq w' b o X N :=
  ⟨cell_later hb h.c0, cell_later hb h.c1, cell_later hb h.c2, cell_later hb h.c3, cell_later hb h.c4, cell_later hb h.c5, cell_later hb h.c6, cell_later hb h.c7, cell_later hb h.c8, cell_later hb h.c9, cell_later hb h.c10, cell_later hb h.c11, cell_later hb h.c12⟩
theorem OwnQ.rd {w : World} {base : Nat} {v : Value} {done : List Sy} (h : OwnQ w base v done) : ∃ a cap, v = .slice a done.length cap ∧ ∀ i (hi : i < done.length), ∃ b, a = some ⟨b, 0, none⟩ ∧ b < w.heap.size ∧ Cq w b (i * 13) done[i].X done[i].N := by
  obtain ⟨_, h⟩ := h
  rcases h with ⟨rfl, h0⟩ | ⟨g, cap, cur, rfl, hg, hh, h1, h2, h3, h4⟩
  · exact ⟨none, 0, by rw [h0], fun i hi => by omega⟩
  · refine ⟨some ⟨g, 0, none⟩, cap, rfl, fun i hi => ⟨g, rfl, lt_of_heap hh, ?_⟩⟩
    have key : ∀ k, k < 13 → w.cell? ⟨g, i * 13 + k, none⟩ = (sc done[i])[k]? := by
      intro k hk
      have hlt : i * 13 + k < done.length * 13 := by omega
      rw [cell_of_row _ _ _ _ _ _ hh, ← sc_at done i hi k hk, ← h4, List.getElem?_take, if_pos hlt, Array.getElem?_toList]
    exact ⟨key 0 (by decide), key 1 (by decide), key 2 (by decide), key 3 (by decide), key 4 (by decide), key 5 (by decide), key 6 (by decide), key 7 (by decide), key 8 (by decide), key 9 (by decide), key 10 (by decide), key 11 (by decide), key 12 (by decide)⟩
theorem OwnQ.later {w w' : World} {base : Nat} {v : Value} {done : List Sy} (h : OwnQ w base v done) (hb : Below w.heap.size w w') : OwnQ w' base v done := own_below h hb
theorem info144 : (Try.prog.info? 144).map (fun i => (i.zero, i.size, i.bytes)) = some (some (.agg (sayC (fun _ => 0) 0)), 13, 104) := by kernel_rfl

/-- What read returns. -/
def ReadP (r : Option Sy) (w : World) (e : Ending) (w' : World) : Prop := Below w.heap.size w w' ∧ match r with
  | some s => e = .returned (sayV s.X s.N)
  | none => e = .panicked wrongP

theorem index142 {C : Array Value} {k : Nat} {x : Int} (hC : C[k]? = some (.int .i64 x)) (hk : k < 12) (w : World) : (Instr.index 142 (.agg C) (.int .i64 k)).run Try.prog w = .ok (.int .i64 x) w := by
  have a3 := Try.isAgg3
  have z3 := Try.sizeOf3
  simp [Instr.index, asIntOf, run_underlying und142, part, go_sem, hC]
  intro h
  omega
theorem cell_says (w : World) (X : Nat → Int) (N : Int) : ∀ j u, (sc ⟨X, N⟩)[j]? = some u → (w.alloc (.cells (sayC X N) 144)).cell? ((⟨w.heap.size, 0, none⟩ : Addr).add j) = some u := by
  intro j u hj
  have h : (w.alloc (.cells (sayC X N) 144)).heap[w.heap.size]? = some (.cells (sayC X N) 144 (0, 0)) := SB.new w X N
  have ea : ((⟨w.heap.size, 0, none⟩ : Addr).add j) = ⟨w.heap.size, j, none⟩ := by
    unfold Addr.add
    by_cases h0 : j = 0
    · subst h0; simp
    · simp [h0]
  rw [ea, cell_of_row _ _ _ _ _ _ h]
  unfold sc at hj
  rw [Array.getElem?_toList] at hj
  exact hj
theorem OwnQ.push {w : World} {base : Nat} {v : Value} {done : List Sy} {y : Sy} (h : w.ownsRow base 144 13 v (done.length + 1) (done.flatMap sc ++ sc y)) : OwnQ w base v (done ++ [y]) := by
  unfold OwnQ
  rw [List.length_append, List.length_singleton, List.flatMap_append]
  simpa using h
theorem arr_at (X : Nat → Int) {k : Nat} (hk : k < 12) : (arrC X)[k]? = some (.int .i64 (X k)) := by
  match k, hk with
  | 0, _ | 1, _ | 2, _ | 3, _ | 4, _ | 5, _ | 6, _ | 7, _ | 8, _ | 9, _ | 10, _ | 11, _ => rfl
theorem stepR_line {l : List AM} {done : List Sy} {A : Nat} (h : A < l.length) : stepR 12 l done ⟨1, A, 0⟩ = some ⟨lnX l[A], l[A].M⟩ := by
  simp [stepR, List.getD, h]
  omega
theorem stepR_sum {l : List AM} {done : List Sy} {A B : Nat} (hA : A < done.length) (hB : B < done.length) : stepR 12 l done ⟨2, A, B⟩ = some ⟨fun k => done[A].X k + done[B].X k, done[A].N + done[B].N⟩ := by
  unfold stepR
  rw [if_neg (by show ¬((2 : Int) = 1); decide), if_pos rfl, if_pos ⟨⟨by show (0 : Int) ≤ A; omega, by show (A : Int) ≤ _; omega⟩, ⟨by show (0 : Int) ≤ B; omega, by show (B : Int) ≤ _; omega⟩⟩]
  simp [List.getD, hA, hB]
theorem stepR_half {l : List AM} {done : List Sy} {A : Nat} (hA : A < done.length) (he : evenX 12 done[A].X = true) : stepR 12 l done ⟨3, A, 0⟩ = some ⟨fun k => done[A].X k / 2, done[A].N / 2⟩ := by
  have e : done.getD A sy0 = done[A] := by simp [List.getD, hA]
  unfold stepR
  rw [if_neg (by show ¬((3 : Int) = 1); decide), if_neg (by show ¬((3 : Int) = 2); decide), if_pos rfl]
  simp only [Int.toNat_natCast, e]
  rw [if_pos ⟨⟨⟨by omega, by omega⟩, trivial⟩, he⟩]
theorem stepR_odd {l : List AM} {done : List Sy} {A : Nat} (hA : A < done.length) (he : evenX 12 done[A].X = false) : stepR 12 l done ⟨3, A, 0⟩ = none := by
  have e : done.getD A sy0 = done[A] := by simp [List.getD, hA]
  unfold stepR
  rw [if_neg (by show ¬((3 : Int) = 1); decide), if_neg (by show ¬((3 : Int) = 2); decide), if_pos rfl]
  simp only [Int.toNat_natCast, e]
  rw [if_neg]
  rw [he]
  rintro ⟨_, h⟩
  cases h
theorem stepR_bad1 {l : List AM} {done : List Sy} {A B : Int} (h : ¬((0 ≤ A ∧ A ≤ (l.length : Int) - 1) ∧ B = 0)) : stepR 12 l done ⟨1, A, B⟩ = none := by
  unfold stepR
  rw [if_pos rfl, if_neg h]
theorem stepR_bad2 {l : List AM} {done : List Sy} {A B : Int} (h : ¬((0 ≤ A ∧ A ≤ (done.length : Int) - 1) ∧ (0 ≤ B ∧ B ≤ (done.length : Int) - 1))) : stepR 12 l done ⟨2, A, B⟩ = none := by
  unfold stepR
  rw [if_neg (by show ¬((2 : Int) = 1); decide), if_pos rfl, if_neg h]
theorem stepR_bad3 {l : List AM} {done : List Sy} {A B : Int} (h : ¬((0 ≤ A ∧ A ≤ (done.length : Int) - 1) ∧ B = 0)) : stepR 12 l done ⟨3, A, B⟩ = none := by
  unfold stepR
  rw [if_neg (by show ¬((3 : Int) = 1); decide), if_neg (by show ¬((3 : Int) = 2); decide), if_pos rfl, if_neg fun h' => h h'.1]
theorem stepR_bado {l : List AM} {done : List Sy} {K A B : Int} (h1 : K ≠ 1) (h2 : K ≠ 2) (h3 : K ≠ 3) : stepR 12 l done ⟨K, A, B⟩ = none := by
  unfold stepR
  rw [if_neg h1, if_neg h2, if_neg h3]
theorem stepS_dead {l : List AM} {done : List Sy} {s : Stp} (h : stepR 12 l done s = none) : stepS 12 l done s = none := by
  unfold stepS
  rw [h]
theorem stepS_wide {l : List AM} {done : List Sy} {s : Stp} {y : Sy} (h : stepR 12 l done s = some y) (ho : ¬(okX 12 y.X = true ∧ okN y.N = true)) : stepS 12 l done s = none := by
  unfold stepS
  rw [h]
  exact if_neg ho
theorem stepS_good {l : List AM} {done : List Sy} {s : Stp} {y : Sy} (h : stepR 12 l done s = some y) (ho : okX 12 y.X = true ∧ okN y.N = true) : stepS 12 l done s = some y := by
  unfold stepS
  rw [h]
  exact if_pos ho
theorem read_dead {l : List AM} {p : List Stp} {done : List Sy} (hj : done.length < p.length) (hrun : runS 12 l [] p = runS 12 l done (p.drop done.length)) (hs : stepS 12 l done p[done.length] = none) (hr : sayS 12 l p = (runS 12 l [] p).bind fun d => d.getLast?) : sayS 12 l p = none := by
  rw [hr, runS_none hj hrun hs]
  rfl
/-- How far read has come. -/
def ReadIn (l : List AM) (p : List Stp) (w : World) (g4 j : Nat) (v : Value) (wr : World) : Prop :=
  ∃ done, OwnQ wr (w.heap.size + 1) v done ∧ done.length = j ∧ runS 12 l [] p = runS 12 l done (p.drop j) ∧ (∀ s, s ∈ done → okX 12 s.X = true ∧ okN s.N = true) ∧ Below w.heap.size w wr ∧ SB wr g4 (fun _ => 0) 0

set_option maxRecDepth 100000 in
set_option maxHeartbeats 8000000 in
theorem read_any (l : List AM) (n : Nat) (hn : n ≤ 12) (ok : ∀ a, a ∈ l → Ok n 1000000 a) (p : List Stp) (a b : Option Addr) (cap cap' : Nat) (w : World) (hl : Rd w a l) (hp : RdS w b p) (hll : l.length ≤ 1000000) (hpl : p.length ≤ 1000000) :
    Calls Try.prog 120 #[.slice a l.length cap, .slice b p.length cap'] w (ReadP (sayS 12 l p) w) := by
  have HL := hid hl; clear hl
  have HP := hid hp; clear hp
  have HOKL := hid ok; clear ok
  obtain ⟨i8, hi8, hz0, hz1, hz2⟩ := info_parts info144
  have HB : Hid (Below w.heap.size w (w.alloc (.cells (sayC (fun _ => 0) 0) 144))) := hid (bnew _ _)
  have H4 : Hid (SB (w.alloc (.cells (sayC (fun _ => 0) 0) 144)) w.heap.size (fun _ => 0) 0) := hid (SB.new _ _ _)
  by_cases h1 : 1 ≤ p.length ∧ p.length ≤ 400
  · have hr := sayS_of (N := 12) (l := l) (p := p) h1
    have HR := hid hr
    have hin : inB (p.length : Int) 1 400 = true := by simp [inB]; omega
    have HIN := hid hin
    obtain ⟨hp1, hp2⟩ := h1
    clear hr hin
    go_enter Try.func120, Try.ntmps120
    go_upto_region 2 with (first
      | (go_at_call 71; (with_reducible refine (within_any _ _ _ _).mono ?_); rw [HIN.out]; rintro e w1 ⟨rfl, rfl⟩)
      | (go_at_call 121; (with_reducible refine (must_yes _).mono ?_); rintro e w1 ⟨rfl, rfl⟩))
    change Code.wp _ _ _ _ (w.alloc (.cells (sayC (fun _ => 0) 0) 144))
    have hos : w.heap.size + 1 ≤ (w.alloc (.cells (sayC (fun _ => 0) 0) 144)).heap.size := by simp
    generalize w.alloc (.cells (sayC (fun _ => 0) 0) 144) = W1 at *
    obtain ⟨g4, hg4⟩ : ∃ g, g = w.heap.size := ⟨_, rfl⟩
    have HG4 := hid hg4
    rw [← hg4] at H4 ⊢
    clear hg4
    go_wp2
    go_loopg [5, 17] p.length (fun gh v i wr => ∃ j : Nat, j ≤ p.length ∧ gh = p.length - j ∧ i = .int .i64 j ∧ ReadIn l p w g4 j v wr)
    case atStart => exact ⟨0, Nat.zero_le _, rfl, rfl, [], ⟨rfl, .inl ⟨rfl, rfl⟩⟩, rfl, rfl, fun s hs => (by cases hs), HB.out, H4.out⟩
    case round =>
      obtain ⟨j, hj, rfl, rfl, done, hown, rfl, hrun, hok, hbw, h4⟩ := hrel
      obtain ⟨ad, cd, rfl, hry⟩ := hown.rd
      have HRY := hid hry
      have HOWN := hid hown
      have HRUN := hid hrun
      have HOK := hid hok
      have HBW := hid hbw
      have H4 := hid h4
      by_cases hlt : done.length < p.length
      · obtain ⟨b2, off, hb, hlt2, q1, q2, q3⟩ := HP.out.below hbw done.length hlt
        subst hb
        obtain ⟨s, hs⟩ : ∃ s, s = p[done.length] := ⟨_, rfl⟩
        rw [← hs] at q1 q2 q3
        have HS := hid hs
        obtain ⟨sK, sA, sB⟩ := s
        clear hry hown hrun hok hbw hs h4
        have HB7 : Hid (Below wr.heap.size wr ((wr.alloc (.cells #[.int .i64 sK, .int .i64 sA, .int .i64 sB] 166)).alloc (.cells (sayC (fun _ => 0) 0) 144))) := hid (bmore (bnew _ _) _)
        have H7 : Hid (((wr.alloc (.cells #[.int .i64 sK, .int .i64 sA, .int .i64 sB] 166)).alloc (.cells (sayC (fun _ => 0) 0) 144)).heap[wr.heap.size]? = some (.cells #[.int .i64 sK, .int .i64 sA, .int .i64 sB] 166 (0, 0))) := hid (by simp only [heap_alloc_if, World.size_alloc] <;> simp)
        have H8 : Hid (SB ((wr.alloc (.cells #[.int .i64 sK, .int .i64 sA, .int .i64 sB] 166)).alloc (.cells (sayC (fun _ => 0) 0) 144)) (wr.heap.size + 1) (fun _ => 0) 0) := hid (by unfold SB; simp only [heap_alloc_if, World.size_alloc] <;> simp)
        go_upto_region 7 with fail
        change Code.wp _ _ _ _ ((wr.alloc (.cells #[.int .i64 sK, .int .i64 sA, .int .i64 sB] 166)).alloc (.cells (sayC (fun _ => 0) 0) 144))
        generalize ((wr.alloc (.cells #[.int .i64 sK, .int .i64 sA, .int .i64 sB] 166)).alloc (.cells (sayC (fun _ => 0) 0) 144)) = W7 at *
        obtain ⟨g7, hg7⟩ : ∃ g, g = wr.heap.size := ⟨_, rfl⟩
        have HG7 := hid hg7
        rw [← hg7] at H7 H8 ⊢
        clear hg7
        generalize hg8 : g7 + 1 = g8 at *
        have HG8 := hid hg8
        clear hg8 q1 q2 q3
        obtain ⟨k0, k1, k2, _, _, _⟩ := box3 H7.out
        go_upto_block 2 with fail
        go_cut [] (fun wx => Below wr.heap.size wr wx ∧ ∃ y, stepR 12 l done ⟨sK, sA, sB⟩ = some y ∧ SB wx g8 y.X y.N)
        case first =>
          by_cases h1 : sK = 1
          · subst h1
            by_cases hA : 0 ≤ sA ∧ sA ≤ (l.length : Int) - 1
            · have hin : inB sA 0 ((l.length : Int) - 1) = true := by simp [inB]; omega
              have HI := hid hin
              by_cases hB : sB = 0
              · subst hB
                obtain ⟨A, rfl⟩ : ∃ A : Nat, sA = (A : Int) := ⟨sA.toNat, by omega⟩
                have hAl : A < l.length := by omega
                obtain ⟨b1, o1, ha, _, p0, p1, p2, p3, p4⟩ := HL.out.below (HBW.out.step HB7.out) A hAl
                subst ha
                have o := HOKL.out l[A] (List.getElem_mem hAl)
                obtain ⟨x, hx⟩ : ∃ x, x = l[A] := ⟨_, rfl⟩
                rw [← hx] at p0 p1 p2 p3 p4 o
                have HSR : Hid (stepR 12 l done ⟨1, A, 0⟩ = some ⟨lnX x, x.M⟩) := hid (by rw [hx]; exact stepR_line hAl)
                obtain ⟨xA, xP, xB, xQ, xM⟩ := x
                have oA : 0 ≤ xA ∧ xA < 12 := ⟨o.a0, by have := o.an; simp only at this; omega⟩
                have oB : 0 ≤ xB ∧ xB < 12 := by
                  by_cases hq : xQ = 0
                  · have := o.b0 hq
                    simp only at this
                    omega
                  · have := o.b1 hq
                    simp only at this
                    omega
                have oN : xQ ≠ 0 → xA ≠ xB := fun hq => by
                  have := (o.b1 hq).2.2
                  simp only at this
                  omega
                have oZ : xQ = 0 → xB = 0 := fun hq => o.b0 hq
                have HO := hid (And.intro oA (And.intro oB (And.intro oN oZ)))
                have hA0 : (0 : Int) ≤ A := by omega
                have hA1 : (A : Int) < (l.length : Int) := by omega
                clear hin hA o oA oB oN oZ hx
                simp only at p0 p1 p2 p3 p4
                obtain ⟨X, hX⟩ : ∃ X, X = lnX ⟨xA, xP, xB, xQ, xM⟩ := ⟨_, rfl⟩
                have hh := fun w => of_say xA xP xB xQ xM w HO.out.1 HO.out.2.1 HO.out.2.2.1 HO.out.2.2.2
                simp only [sayV, sayC, ← hX] at hh
                have HHH := hid hh
                have HSR := hid (by have := HSR.out; rwa [← hX] at this : stepR 12 l done ⟨1, A, 0⟩ = some ⟨X, xM⟩)
                clear hh hX
                go_wp2_with (first
                  | (go_at_call 71; (with_reducible refine (within_any _ _ _ _).mono ?_); rw [HI.out]; rintro e w1 ⟨rfl, rfl⟩)
                  | (go_at_call 121; (with_reducible refine (must_yes _).mono ?_); rintro e w1 ⟨rfl, rfl⟩)
                  | (go_at_call 92; (with_reducible refine (HHH.out _).mono ?_); rintro e w1 ⟨rfl, hb⟩; have H8 := hid (H8.out.keep hb); have HB7 := hid (HB7.out.step hb); clear hb; obtain ⟨d0, d1, d2, d3, d4, d5, d6, d7, d8, d9, d10, d11, d12⟩ := H8.out.all; have f0 := H8.out.frozen 0; have f1 := H8.out.frozen 1; have f2 := H8.out.frozen 2; have f3 := H8.out.frozen 3; have f4 := H8.out.frozen 4; have f5 := H8.out.frozen 5; have f6 := H8.out.frozen 6; have f7 := H8.out.frozen 7; have f8 := H8.out.frozen 8; have f9 := H8.out.frozen 9; have f10 := H8.out.frozen 10; have f11 := H8.out.frozen 11; have f12 := H8.out.frozen 12))
                go_meet
                exact ⟨SB.putBelow HB7.out (g := g8) (by have := HG8.out; have := HG7.out; omega) X xM, _, HSR.out, H8.out.put X xM⟩
              · have eB : (sB == 0) = false := by simpa using hB
                clear hin
                go_wp2_with (first | (go_at_call 71; (with_reducible refine (within_any _ _ _ _).mono ?_); rw [HI.out]; rintro e w1 ⟨rfl, rfl⟩) | (go_at_call 121; (with_reducible refine (must_no _).mono ?_); rintro e w1 ⟨rfl, rfl⟩))
                exact ⟨rfl, HBW.out.step HB7.out, by rw [read_dead hlt HRUN.out (by rw [← HS.out]; exact stepS_dead (stepR_bad1 fun h => hB h.2)) HR.out]⟩
            · have hin : inB sA 0 ((l.length : Int) - 1) = false := by simp [inB]; omega
              have HI := hid hin
              clear hin
              go_wp2_with (first | (go_at_call 71; (with_reducible refine (within_any _ _ _ _).mono ?_); rw [HI.out]; rintro e w1 ⟨rfl, rfl⟩) | (go_at_call 121; (with_reducible refine (must_no _).mono ?_); rintro e w1 ⟨rfl, rfl⟩))
              exact ⟨rfl, HBW.out.step HB7.out, by rw [read_dead hlt HRUN.out (by rw [← HS.out]; exact stepS_dead (stepR_bad1 fun h => hA h.1)) HR.out]⟩
          · by_cases h2 : sK = 2
            · subst h2
              by_cases hA : 0 ≤ sA ∧ sA ≤ (done.length : Int) - 1
              · have hin : inB sA 0 ((done.length : Int) - 1) = true := by simp [inB]; omega
                have HI := hid hin
                by_cases hB : 0 ≤ sB ∧ sB ≤ (done.length : Int) - 1
                · have hin2 : inB sB 0 ((done.length : Int) - 1) = true := by simp [inB]; omega
                  have HI2 := hid hin2
                  obtain ⟨A, rfl⟩ : ∃ A : Nat, sA = (A : Int) := ⟨sA.toNat, by omega⟩
                  obtain ⟨B, rfl⟩ : ∃ B : Nat, sB = (B : Int) := ⟨sB.toNat, by omega⟩
                  have hAl : A < done.length := by omega
                  have hBl : B < done.length := by omega
                  obtain ⟨b1, ha, _, cA⟩ := HRY.out A hAl
                  obtain ⟨b1', ha', _, cB⟩ := HRY.out B hBl
                  subst ha
                  cases ha'
                  obtain ⟨xA, hxA⟩ : ∃ x, x = done[A] := ⟨_, rfl⟩
                  obtain ⟨xB, hxB⟩ : ∃ x, x = done[B] := ⟨_, rfl⟩
                  rw [← hxA] at cA
                  rw [← hxB] at cB
                  have okA : okX 12 xA.X = true ∧ okN xA.N = true := by rw [hxA]; exact HOK.out _ (List.getElem_mem hAl)
                  have okB : okX 12 xB.X = true ∧ okN xB.N = true := by rw [hxB]; exact HOK.out _ (List.getElem_mem hBl)
                  have HSR : Hid (stepR 12 l done ⟨2, A, B⟩ = some ⟨fun k => xA.X k + xB.X k, xA.N + xB.N⟩) := hid (by rw [hxA, hxB]; exact stepR_sum hAl hBl)
                  obtain ⟨X, N⟩ := xA
                  obtain ⟨Y, M⟩ := xB
                  have HO := hid (And.intro okA okB)
                  have hA0 : (0 : Int) ≤ A := by omega
                  have hA1 : (A : Int) < (done.length : Int) := by omega
                  have hB0 : (0 : Int) ≤ B := by omega
                  have hB1 : (B : Int) < (done.length : Int) := by omega
                  have CA := hid (cA.later HB7.out)
                  have CB := hid (cB.later HB7.out)
                  clear hin hin2 hA hB okA okB cA cB hxA hxB
                  go_upto_region 14 with (first | (go_at_call 71; (with_reducible refine (within_any _ _ _ _).mono ?_); rw [HI.out]; rintro e w1 ⟨rfl, rfl⟩) | (go_at_call 71; (with_reducible refine (within_any _ _ _ _).mono ?_); rw [HI2.out]; rintro e w1 ⟨rfl, rfl⟩) | (go_at_call 121; (with_reducible refine (must_yes _).mono ?_); rintro e w1 ⟨rfl, rfl⟩))
                  obtain ⟨a0, a1, a2, a3, a4, a5, a6, a7, a8, a9, a10, a11, a12⟩ := CA.out
                  obtain ⟨c0, c1, c2, c3, c4, c5, c6, c7, c8, c9, c10, c11, c12⟩ := CB.out
                  try simp only at a0 a1 a2 a3 a4 a5 a6 a7 a8 a9 a10 a11 a12 c0 c1 c2 c3 c4 c5 c6 c7 c8 c9 c10 c11 c12
                  have hh := fun w => plus_say X Y N M w HO.out.1.1 HO.out.2.1 HO.out.1.2 HO.out.2.2
                  simp only [sayV, sayC] at hh
                  have HHH := hid hh
                  clear hh
                  go_still_tail 10, (by kernel_rfl)
                  change wpList _ _ _ _ _ (World.drew _)
                  clear a0 a1 a2 a3 a4 a5 a6 a7 a8 a9 a10 a11 a12 c0 c1 c2 c3 c4 c5 c6 c7 c8 c9 c10 c11 c12
                  go_wp2_with (go_at_call 122; (with_reducible refine (HHH.out _).mono ?_); rintro e w1 ⟨rfl, hb⟩; have hb := (bdrew _).step hb; have H8 := hid (H8.out.keep hb); have HB7 := hid (HB7.out.step hb); clear hb; obtain ⟨d0, d1, d2, d3, d4, d5, d6, d7, d8, d9, d10, d11, d12⟩ := H8.out.all; have f0 := H8.out.frozen 0; have f1 := H8.out.frozen 1; have f2 := H8.out.frozen 2; have f3 := H8.out.frozen 3; have f4 := H8.out.frozen 4; have f5 := H8.out.frozen 5; have f6 := H8.out.frozen 6; have f7 := H8.out.frozen 7; have f8 := H8.out.frozen 8; have f9 := H8.out.frozen 9; have f10 := H8.out.frozen 10; have f11 := H8.out.frozen 11; have f12 := H8.out.frozen 12)
                  go_meet
                  exact ⟨SB.putBelow HB7.out (g := g8) (by have := HG8.out; have := HG7.out; omega) (fun k => X k + Y k) (N + M), _, HSR.out, H8.out.put (fun k => X k + Y k) (N + M)⟩
                · have hin2 : inB sB 0 ((done.length : Int) - 1) = false := by simp [inB]; omega
                  have HI2 := hid hin2
                  clear hin hin2
                  go_wp2_with (first | (go_at_call 71; (with_reducible refine (within_any _ _ _ _).mono ?_); rw [HI.out]; rintro e w1 ⟨rfl, rfl⟩) | (go_at_call 71; (with_reducible refine (within_any _ _ _ _).mono ?_); rw [HI2.out]; rintro e w1 ⟨rfl, rfl⟩) | (go_at_call 121; (with_reducible refine (must_no _).mono ?_); rintro e w1 ⟨rfl, rfl⟩))
                  exact ⟨rfl, HBW.out.step HB7.out, by rw [read_dead hlt HRUN.out (by rw [← HS.out]; exact stepS_dead (stepR_bad2 fun h => hB h.2)) HR.out]⟩
              · have hin : inB sA 0 ((done.length : Int) - 1) = false := by simp [inB]; omega
                have HI := hid hin
                clear hin
                go_wp2_with (first | (go_at_call 71; (with_reducible refine (within_any _ _ _ _).mono ?_); rw [HI.out]; rintro e w1 ⟨rfl, rfl⟩) | (go_at_call 121; (with_reducible refine (must_no _).mono ?_); rintro e w1 ⟨rfl, rfl⟩))
                exact ⟨rfl, HBW.out.step HB7.out, by rw [read_dead hlt HRUN.out (by rw [← HS.out]; exact stepS_dead (stepR_bad2 fun h => hA h.1)) HR.out]⟩
            · by_cases h3 : sK = 3
              · subst h3
                by_cases hA : 0 ≤ sA ∧ sA ≤ (done.length : Int) - 1
                · have hin : inB sA 0 ((done.length : Int) - 1) = true := by simp [inB]; omega
                  have HI := hid hin
                  by_cases hB : sB = 0
                  · subst hB
                    obtain ⟨A, rfl⟩ : ∃ A : Nat, sA = (A : Int) := ⟨sA.toNat, by omega⟩
                    have hAl : A < done.length := by omega
                    obtain ⟨b1, ha, _, cA⟩ := HRY.out A hAl
                    subst ha
                    obtain ⟨xA, hxA⟩ : ∃ x, x = done[A] := ⟨_, rfl⟩
                    rw [← hxA] at cA
                    have okA : okX 12 xA.X = true ∧ okN xA.N = true := by rw [hxA]; exact HOK.out _ (List.getElem_mem hAl)
                    have HHE : Hid (evenX 12 xA.X = true → stepR 12 l done ⟨3, A, 0⟩ = some ⟨fun k => xA.X k / 2, xA.N / 2⟩) := hid fun he => by rw [hxA] at he ⊢; exact stepR_half hAl he
                    have HHO : Hid (evenX 12 xA.X = false → stepR 12 l done ⟨3, A, 0⟩ = none) := hid fun he => stepR_odd hAl (by rw [← hxA]; exact he)
                    obtain ⟨X, N⟩ := xA
                    have HO := hid okA
                    have hA0 : (0 : Int) ≤ A := by omega
                    have hA1 : (A : Int) < (done.length : Int) := by omega
                    obtain ⟨a0, a1, a2, a3, a4, a5, a6, a7, a8, a9, a10, a11, a12⟩ := cA.later HB7.out
                    try simp only at a0 a1 a2 a3 a4 a5 a6 a7 a8 a9 a10 a11 a12
                    have hh := fun w => half_say X N w HO.out.1 HO.out.2
                    simp only [sayV, sayC] at hh
                    have HHH := hid hh
                    clear hh
                    clear hin hA okA cA hxA
                    cases he : evenX 12 X with
                    | true =>
                      have HEV := hid he
                      clear he
                      go_wp2_with (first
                        | (go_at_call 71; (with_reducible refine (within_any _ _ _ _).mono ?_); rw [HI.out]; rintro e w1 ⟨rfl, rfl⟩)
                        | (go_at_call 121; (with_reducible refine (must_yes _).mono ?_); rintro e w1 ⟨rfl, rfl⟩)
                        | (go_at_call 123; (with_reducible refine (HHH.out _).mono ?_); rintro e w1 ⟨hb, he⟩; rw [if_pos HEV.out] at he; simp only [sayV, sayC] at he; subst he; have H8 := hid (H8.out.keep hb); have HB7 := hid (HB7.out.step hb); clear hb; obtain ⟨d0, d1, d2, d3, d4, d5, d6, d7, d8, d9, d10, d11, d12⟩ := H8.out.all; have f0 := H8.out.frozen 0; have f1 := H8.out.frozen 1; have f2 := H8.out.frozen 2; have f3 := H8.out.frozen 3; have f4 := H8.out.frozen 4; have f5 := H8.out.frozen 5; have f6 := H8.out.frozen 6; have f7 := H8.out.frozen 7; have f8 := H8.out.frozen 8; have f9 := H8.out.frozen 9; have f10 := H8.out.frozen 10; have f11 := H8.out.frozen 11; have f12 := H8.out.frozen 12))
                      go_meet
                      exact ⟨SB.putBelow HB7.out (g := g8) (by have := HG8.out; have := HG7.out; omega) (fun k => X k / 2) (N / 2), _, HHE.out HEV.out, H8.out.put (fun k => X k / 2) (N / 2)⟩
                    | false =>
                      have HEV := hid he
                      clear he
                      go_wp2_with (first
                        | (go_at_call 71; (with_reducible refine (within_any _ _ _ _).mono ?_); rw [HI.out]; rintro e w1 ⟨rfl, rfl⟩)
                        | (go_at_call 121; (with_reducible refine (must_yes _).mono ?_); rintro e w1 ⟨rfl, rfl⟩)
                        | (go_at_call 123; (with_reducible refine (HHH.out _).mono ?_); rintro e w1 ⟨hb, he⟩; rw [if_neg (by rw [HEV.out]; decide)] at he; subst he; have HB7 := hid (HB7.out.step hb); clear hb))
                      exact ⟨rfl, HBW.out.step HB7.out, by rw [read_dead hlt HRUN.out (by rw [← HS.out]; exact stepS_dead (HHO.out HEV.out)) HR.out]⟩
                  · have eB : (sB == 0) = false := by simpa using hB
                    clear hin
                    go_wp2_with (first | (go_at_call 71; (with_reducible refine (within_any _ _ _ _).mono ?_); rw [HI.out]; rintro e w1 ⟨rfl, rfl⟩) | (go_at_call 121; (with_reducible refine (must_no _).mono ?_); rintro e w1 ⟨rfl, rfl⟩))
                    exact ⟨rfl, HBW.out.step HB7.out, by rw [read_dead hlt HRUN.out (by rw [← HS.out]; exact stepS_dead (stepR_bad3 fun h => hB h.2)) HR.out]⟩
                · have hin : inB sA 0 ((done.length : Int) - 1) = false := by simp [inB]; omega
                  have HI := hid hin
                  clear hin
                  go_wp2_with (first | (go_at_call 71; (with_reducible refine (within_any _ _ _ _).mono ?_); rw [HI.out]; rintro e w1 ⟨rfl, rfl⟩) | (go_at_call 121; (with_reducible refine (must_no _).mono ?_); rintro e w1 ⟨rfl, rfl⟩))
                  exact ⟨rfl, HBW.out.step HB7.out, by rw [read_dead hlt HRUN.out (by rw [← HS.out]; exact stepS_dead (stepR_bad3 fun h => hA h.1)) HR.out]⟩
              · have e1 : (sK == 1) = false := by simpa using h1
                have e2 : (sK == 2) = false := by simpa using h2
                have e3 : (sK == 3) = false := by simpa using h3
                go_wp2_with (go_at_call 121; (with_reducible refine (must_no _).mono ?_); rintro e w1 ⟨rfl, rfl⟩)
                exact ⟨rfl, HBW.out.step HB7.out, by rw [read_dead hlt HRUN.out (by rw [← HS.out]; exact stepS_dead (stepR_bado h1 h2 h3)) HR.out]⟩
        case rest =>
          obtain ⟨hb, ⟨X, N⟩, hsr, hs8⟩ := hcut
          have HBC := hid hb
          have HSR := hid hsr
          have H8 := hid hs8
          have H4 := hid (H4.out.keep hb)
          have HOWN := hid (HOWN.out.later hb)
          obtain ⟨c0, c1, c2, c3, c4, c5, c6, c7, c8, c9, c10, c11, c12⟩ := hs8.all
          simp only at c0 c1 c2 c3 c4 c5 c6 c7 c8 c9 c10 c11 c12
          clear hb hsr hs8
          go_wp2
          go_loopg [92] 12 (fun gh s wx => ∃ k : Nat, k ≤ 12 ∧ gh = 12 - k ∧ s = .int .i64 k ∧ wx = wc ∧ Hid (∀ j, j < k → inB (X j) (-100) 100 = true))
          case atStart => exact ⟨0, Nat.zero_le _, rfl, rfl, rfl, hid fun j hj => absurd hj (Nat.not_lt_zero j)⟩
          case round =>
            obtain ⟨k, hk, rfl, rfl, rfl, HK⟩ := hrel
            by_cases hltk : k < 12
            · have hk0 : (0 : Int) ≤ k := by omega
              have hk1 : (k : Int) < 12 := by omega
              go_upto_region 20 with fail
              generalize hC : (#[.int .i64 (X 0), .int .i64 (X 1), .int .i64 (X 2), .int .i64 (X 3), .int .i64 (X 4), .int .i64 (X 5), .int .i64 (X 6), .int .i64 (X 7), .int .i64 (X 8), .int .i64 (X 9), .int .i64 (X 10), .int .i64 (X 11)] : Array Value) = C at *
              have hCk : C[k]? = some (.int .i64 (X k)) := by rw [← hC]; exact arr_at X hltk
              obtain ⟨x, hx⟩ : ∃ x, x = X k := ⟨_, rfl⟩
              rw [← hx] at hCk
              have hix := fun w => index142 hCk hltk w
              have HX := hid hx
              clear hC hx
              cases hin : inB x (-100) 100 with
              | true =>
                have HI := hid hin
                clear hin
                go_upto_region 22 with (first
                  | (go_at_call 71; (with_reducible refine (within_any _ _ _ _).mono ?_); rw [HI.out]; rintro e w1 ⟨rfl, rfl⟩)
                  | (go_at_call 121; (with_reducible refine (must_yes _).mono ?_); rintro e w1 ⟨rfl, rfl⟩))
                go_wp2
                go_roundg (12 - (k + 1))
                case rel =>
                  refine ⟨k + 1, by omega, rfl, by go_num, rfl, hid fun j hj => ?_⟩
                  by_cases e : j = k
                  · rw [e, ← HX.out]
                    exact HI.out
                  · exact HK.out j (by omega)
                case measure => omega
              | false =>
                have HI := hid hin
                clear hin
                go_wp2_with (first
                  | (go_at_call 71; (with_reducible refine (within_any _ _ _ _).mono ?_); rw [HI.out]; rintro e w1 ⟨rfl, rfl⟩)
                  | (go_at_call 121; (with_reducible refine (must_no _).mono ?_); rintro e w1 ⟨rfl, rfl⟩))
                exact ⟨rfl, HBW.out.step HBC.out, by
                  rw [read_dead hlt HRUN.out (by
                    rw [← HS.out]
                    refine stepS_wide HSR.out fun h => ?_
                    have h1 := h.1
                    simp only [okX, decide_eq_true_eq] at h1
                    have h2 := h1 k hltk
                    have h3 := HI.out
                    rw [HX.out] at h3
                    simp [inB] at h3
                    omega) HR.out]⟩
            · have hox : okX 12 X = true := by
                simp only [okX, decide_eq_true_eq]
                intro j hj
                have h3 := HK.out j (by omega)
                simpa [inB] using h3
              have HOX := hid hox
              have hke : k = 12 := by omega
              subst hke
              clear hox hk hltk
              cases hin : inB N (-1125899906842624) 1125899906842624 with
              | false =>
                have HI := hid hin
                clear hin
                go_wp2_with (first
                  | (go_at_call 71; (with_reducible refine (within_any _ _ _ _).mono ?_); rw [HI.out]; rintro e w1 ⟨rfl, rfl⟩)
                  | (go_at_call 121; (with_reducible refine (must_no _).mono ?_); rintro e w1 ⟨rfl, rfl⟩))
                exact ⟨rfl, HBW.out.step HBC.out, by
                  rw [read_dead hlt HRUN.out (by
                    rw [← HS.out]
                    refine stepS_wide HSR.out fun h => ?_
                    have h1 := h.2
                    have h3 := HI.out
                    simp [okN] at h1
                    simp [inB] at h3
                    omega) HR.out]⟩
              | true =>
                have HI := hid hin
                clear hin
                go_upto_region 24 with (first
                  | (go_at_call 71; (with_reducible refine (within_any _ _ _ _).mono ?_); rw [HI.out]; rintro e w1 ⟨rfl, rfl⟩)
                  | (go_at_call 121; (with_reducible refine (must_yes _).mono ?_); rintro e w1 ⟨rfl, rfl⟩))
                have hcs := cell_says w1 X N
                have h1c : ∀ u ∈ sc ⟨X, N⟩, u.oneCell' = true := fun u hu => sc_one [⟨X, N⟩] u (by simpa using hu)
                have HJ := hid (And.intro hcs h1c)
                clear hcs h1c
                go_wp2_with (at_builtin; refine wpList_append_own _ rfl _ _ 180 rfl (w.heap.size + 1) 144 i8 _ 13 104 Try.underlying180 hi8 hz0 hz1 hz2 rfl (by decide) (.slice ad done.length cd) _ _ rfl (World.ownsRow.alloc HOWN.out _) ⟨w1.heap.size, 0, none⟩ 1 1 (sc ⟨X, N⟩) rfl rfl HJ.out.1 HJ.out.2 (by unfold maxLen; omega) (by omega) (by have := HBW.out.size; have := HBC.out.size; have := H4.out.lt; have := HG4.out; simp; omega) ?_; intro v2 w4 hown2 hgrow2 hnil2; have HO2 := hid (And.intro hown2 hgrow2); clear hown2 hgrow2 hnil2)
                go_roundg (p.length - (done.length + 1))
                case rel =>
                  have hsz : w.heap.size ≤ w1.heap.size := Nat.le_trans HBW.out.size HBC.out.size
                  have hlt4 := H4.out.lt
                  have hg4 := HG4.out
                  have hge := own_ge HOWN.out
                  refine ⟨done.length + 1, by omega, rfl, by go_num, done ++ [⟨X, N⟩], OwnQ.push HO2.out.1, by simp, ?_, ?_, ?_, ?_⟩
                  · rw [HRUN.out, List.drop_eq_getElem_cons hlt]
                    exact runS_cons (by rw [← HS.out]; exact stepS_good HSR.out ⟨HOX.out, by
                      have h3 := HI.out
                      simp [inB] at h3
                      simp [okN]
                      omega⟩)
                  · intro s hs
                    rcases List.mem_append.1 hs with h | h
                    · exact HOK.out s h
                    · rw [List.mem_singleton.1 h]
                      refine ⟨HOX.out, ?_⟩
                      have h3 := HI.out
                      simp [inB] at h3
                      simp [okN]
                      omega
                  · exact ((HBW.out.step HBC.out).alloc hsz _).grown HO2.out.2 (by simp; omega) (fun k hk => by have := hge k hk; omega)
                  · exact box_kept HO2.out.2 ((heapo _ _ _ hlt4).trans H4.out) (fun e => by have := hge g4 e.symm; omega)
                case measure => omega
      · obtain ⟨m, hm⟩ : ∃ m, done.length = m + 1 := ⟨done.length - 1, by omega⟩
        have hml : m < done.length := by omega
        obtain ⟨b1, ha, _, cM⟩ := hry m hml
        subst ha
        have hr2 : sayS 12 l p = some done[m] := by
          rw [HR.out, HRUN.out, List.drop_of_length_le (by omega)]
          show done.getLast? = _
          rw [List.getLast?_eq_getElem?, show done.length - 1 = m by omega, List.getElem?_eq_getElem hml]
        have HR2 := hid hr2
        have e1 : ((done.length : Nat) : Int) - 1 = (m : Int) := by omega
        have hm0 : (0 : Int) ≤ m := by omega
        have hm1 : (m : Int) < (done.length : Int) := by omega
        obtain ⟨s, hs⟩ : ∃ s, s = done[m] := ⟨_, rfl⟩
        rw [← hs] at cM
        have HSM := hid hs
        obtain ⟨X, N⟩ := s
        obtain ⟨a0, a1, a2, a3, a4, a5, a6, a7, a8, a9, a10, a11, a12⟩ := cM
        try simp only at a0 a1 a2 a3 a4 a5 a6 a7 a8 a9 a10 a11 a12
        obtain ⟨d0, d1, d2, d3, d4, d5, d6, d7, d8, d9, d10, d11, d12⟩ := H4.out.all
        have f0 := H4.out.frozen 0
        have f1 := H4.out.frozen 1
        have f2 := H4.out.frozen 2
        have f3 := H4.out.frozen 3
        have f4 := H4.out.frozen 4
        have f5 := H4.out.frozen 5
        have f6 := H4.out.frozen 6
        have f7 := H4.out.frozen 7
        have f8 := H4.out.frozen 8
        have f9 := H4.out.frozen 9
        have f10 := H4.out.frozen 10
        have f11 := H4.out.frozen 11
        have f12 := H4.out.frozen 12
        clear hry hown hrun hok hbw h4 hr2 hm hs
        go_wp2
        have HF := hid (H4.out.put X N)
        have HB := hid (SB.putBelow HBW.out (g := g4) (by have := HG4.out; omega) X N)
        change bodyPost _ _ _ _ _ (putS _ g4 X N)
        generalize putS _ g4 X N = W9 at *
        obtain ⟨e0, e1', e2, e3, e4, e5, e6, e7, e8, e9, e10, e11, e12⟩ := HF.out.all
        refine bodyPost_ret (v := sayV X N) (by simp [results, Try.results120, go_sem, sayV, sayC, e0, e1', e2, e3, e4, e5, e6, e7, e8, e9, e10, e11, e12]) rfl ⟨HB.out, ?_⟩
        rw [HR2.out, ← HSM.out]
  · have hr : sayS 12 l p = none := by unfold sayS; rw [if_neg h1]
    rw [hr]
    have hin : inB (p.length : Int) 1 400 = false := by simp [inB]; omega
    have HIN := hid hin
    clear hin hr h1
    go_enter Try.func120, Try.ntmps120
    go_wp2_with (first
      | (go_at_call 71; (with_reducible refine (within_any _ _ _ _).mono ?_); rw [HIN.out]; rintro e w1 ⟨rfl, rfl⟩)
      | (go_at_call 121; (with_reducible refine (must_no _).mono ?_); rintro e w1 ⟨rfl, rfl⟩))
    exact ⟨rfl, HB.out, rfl⟩


def wrongV : Value := .iface 177 (.agg #[])
theorem eqWrong (w : World) : (binOp .neq 20 (.iface 177 (.agg #[])) (.iface 177 (.agg #[]))).run Try.prog w = .ok (.bool false) w := by kernel_rfl
theorem neNil (w : World) : (binOp .neq 20 (.iface 177 (.agg #[])) .nilIface).run Try.prog w = .ok (.bool true) w := by kernel_rfl
theorem nilNil (w : World) : (binOp .neq 20 .nilIface .nilIface).run Try.prog w = .ok (.bool false) w := by kernel_rfl
set_option maxRecDepth 100000 in
set_option maxHeartbeats 1000000 in
theorem catch_wrong (p : Addr) (x : Bool) (w : World) (hc : w.cell? p = some (.bool x)) (hz : w.frozen? p = false) :
    CallsD Try.prog 119 #[.pointer (some p)] (.panicking wrongP) w fun e u' w' =>
      e = .returned (.tuple #[]) ∧ u' = .panicking [{ v := .iface 177 (.agg #[]), recovered := true }] ∧ w' = w.setCell p (.bool false) := by
  have q1 := eqWrong
  have q2 := neNil
  unfold wrongP
  refine callsD_of_wpS Try.func119 rfl fun c₀ cs hu => ?_
  apply wpS_seq
  apply wpS_region
  simp [wpOpsS, go_sem, recoverD, hu, Try.ntmps119, Exit.thenS]
  apply wpS_seq
  apply wpS_region
  simp [wpOpsS, go_sem, q2, Exit.thenS]
  refine wpS_cond (t := true) (by simp [Act.eval, Array.replicate]) ?_
  simp only [if_true]
  apply wpS_seq
  apply wpS_seq
  apply wpS_region
  simp [wpOpsS, go_sem, q1, Exit.thenS]
  refine wpS_cond (t := false) (by simp [Act.eval, Array.replicate]) ?_
  simp only [Bool.false_eq_true, if_false]
  refine wpS_of_wp (wp_skip ?_)
  apply wpS_region
  simp [wpOpsS, go_sem, hc, hz, bodyPostS, results, Try.results119]
set_option maxRecDepth 100000 in
set_option maxHeartbeats 1000000 in
theorem catch_idle (p : Addr) (w : World) :
    CallsD Try.prog 119 #[.pointer (some p)] .returning w fun e u' w' => e = .returned (.tuple #[]) ∧ u' = .returning ∧ w' = w := by
  have q3 := nilNil
  refine callsD_of_wpS Try.func119 rfl fun c₀ cs hu => ?_
  apply wpS_seq
  apply wpS_region
  simp [wpOpsS, go_sem, recoverD, hu, Try.ntmps119, Exit.thenS]
  apply wpS_seq
  apply wpS_region
  simp [wpOpsS, go_sem, q3, Exit.thenS]
  refine wpS_cond (t := false) (by simp [Act.eval, Array.replicate]) ?_
  simp only [Bool.false_eq_true, if_false]
  refine wpS_of_wp (wp_skip ?_)
  cases c₀
  simp_all [bodyPostS, results, Try.results119]

set_option maxRecDepth 100000 in
set_option maxHeartbeats 4000000 in
theorem proved_none (l : List AM) (n : Nat) (hn : n ≤ 12) (ok : ∀ a, a ∈ l → Ok n 1000000 a) (p : List Stp) (a b : Option Addr) (cap cap' : Nat) (w : World) (hl : Rd w a l) (hp : RdS w b p) (hll : l.length ≤ 1000000) (hpl : p.length ≤ 1000000) :
    Calls Try.prog 112 #[.slice a l.length cap, .slice b p.length cap', .func (.func 91) #[] #[]] w (RetB (.bool (refB 12 l p)) w) := by
  have hmf : ∀ (fn : Fn) (first cap : Array Value) (w : World), (Instr.makeFunc fn first cap).run Try.prog w = .ok (.func fn first cap) w := fun _ _ _ _ => rfl
  have HL := hid hl
  have HP := hid hp
  have HOK := hid ok
  clear hl hp ok
  have HB := hid (bnew w (.cells #[.bool false] 4))
  have HX : Hid ((w.alloc (.cells #[.bool false] 4)).heap[w.heap.size]? = some (.cells #[.bool false] 4 (0, 0))) := hid (heapn _ _ _ rfl)
  cases hs : sayS 12 l p with
  | none =>
    have hr : refB 12 l p = false := by unfold refB; rw [hs]
    rw [hr]
    have HS := hid hs
    clear hs hr
    go_enter_defers Try.func112, Try.ntmps112
    go_wp2_with (go_at_call 120; (with_reducible refine (read_any l n hn HOK.out p a b cap cap' _ (HL.out.below HB.out) (HP.out.below HB.out) hll hpl).mono ?_); rintro e w1 ⟨hb, he⟩; rw [HS.out] at he; dsimp only at he; subst he; have HB := hid (HB.out.step hb); have HX := hid (keepBox hb HX.out); have kc : w1.cell? ⟨w.heap.size, 0, none⟩ = some (.bool false) := cell_in HX.out rfl; have kf := froz_in (k := 0) HX.out; clear hb)
    refine leaves_cons (f := 119) (args := #[.pointer (some ⟨w.heap.size, 0, none⟩)]) (by simp) (by simp [go_sem]) ?_
    refine (catch_wrong ⟨w.heap.size, 0, none⟩ false _ kc kf).mono ?_
    rintro e u' w2 ⟨rfl, rfl, rfl⟩
    have HB := hid (Below.setCell HB.out (p := ⟨w.heap.size, 0, none⟩) (Nat.le_refl _) (.bool false))
    have kd : (w1.setCell ⟨w.heap.size, 0, none⟩ (.bool false)).cell? ⟨w.heap.size, 0, none⟩ = some (.bool false) := cell_in (heap_setCell_same _ _ _ _ _ _ HX.out) rfl
    simp [Leaves, settle, results, Try.results112, go_sem]
    rw [kd]
    exact ⟨_, rfl, rfl, HB.out⟩
  | some s =>
    have hr : refB 12 l p = noneS 12 s := by unfold refB; rw [hs]
    rw [hr]
    have HS := hid hs
    clear hs hr
    obtain ⟨X, N⟩ := s
    go_enter_defers Try.func112, Try.ntmps112
    go_wp2_with (first
      | (go_at_call 120; (with_reducible refine (read_any l n hn HOK.out p a b cap cap' _ (HL.out.below HB.out) (HP.out.below HB.out) hll hpl).mono ?_); rintro e w1 ⟨hb, he⟩; rw [HS.out] at he; dsimp only at he; subst he; have HB := hid (HB.out.step hb); have HX := hid (keepBox hb HX.out); have kc : w1.cell? ⟨w.heap.size, 0, none⟩ = some (.bool false) := cell_in HX.out rfl; have kf := froz_in (k := 0) HX.out; clear hb)
      | (go_at_call 91; (with_reducible refine (none_say X N _).mono ?_); rintro e w1 ⟨rfl, hb⟩; have HB := hid (HB.out.step hb); have HX := hid (keepBox hb HX.out); have kc : w1.cell? ⟨w.heap.size, 0, none⟩ = some (.bool false) := cell_in HX.out rfl; have kf := froz_in (k := 0) HX.out; clear hb))
    refine leaves_cons (f := 119) (args := #[.pointer (some ⟨w.heap.size, 0, none⟩)]) (by simp) (by simp [go_sem]) ?_
    refine (catch_idle ⟨w.heap.size, 0, none⟩ _).mono ?_
    rintro e u' w2 ⟨rfl, rfl, rfl⟩
    have HB := hid (Below.setCell HB.out (p := ⟨w.heap.size, 0, none⟩) (Nat.le_refl _) (.bool (noneS 12 ⟨X, N⟩)))
    have kd : (w1.setCell ⟨w.heap.size, 0, none⟩ (.bool (noneS 12 ⟨X, N⟩))).cell? ⟨w.heap.size, 0, none⟩ = some (.bool (noneS 12 ⟨X, N⟩)) := cell_in (heap_setCell_same _ _ _ _ _ _ HX.out) rfl
    simp [Leaves, settle, results, Try.results112, go_sem]
    rw [kd]
    exact ⟨_, rfl, rfl, HB.out⟩


theorem part144a (X : Nat → Int) (N : Int) (w : World) : (part 142 (sayC X N) 0).run Try.prog w = .ok (.agg (arrC X)) w := by kernel_rfl
theorem part144b (X : Nat → Int) (N : Int) (w : World) : (part 3 (sayC X N) 12).run Try.prog w = .ok (.int .i64 N) w := by kernel_rfl
theorem eq144 (X Y : Nat → Int) (N M : Int) (w : World) : (Op.equalIn 10000 144 (.agg (sayC X N)) (.agg (sayC Y M))).run Try.prog w = .ok (((List.range 12).all fun k => X k == Y k) && (N == M)) w := by
  have hS : Try.prog.underlying 144 = some (.struct (Try.prog.fieldsOf 144)) := by kernel_rfl
  have hp : Try.prog.stoodInHeld 144 = false := by kernel_rfl
  have h1 := part144a X N
  have h2 := part144b X N
  have h3 := part144a Y M
  have h4 := part144b Y M
  have h5 := eq142 9997 X Y
  have h6 := run_equalIn_int (P := Try.prog) w 9998 3 .i64 .i64 N M Try.underlying3
  rw [show (10000 : Nat) = 9999 + 1 from rfl, run_equalIn_agg w 9999 144 _ _ hS hp]
  simp only [Program.fieldsOf, Try.underlying144]
  have n1 : ("by" : String) ≠ "_" := by decide
  have n2 : ("most" : String) ≠ "_" := by decide
  have h5' : (Op.equalIn 9999 142 (.agg (arrC X)) (.agg (arrC Y))).run Try.prog w = .ok ((List.range 12).all fun k => X k == Y k) w := h5 w
  have h6' : (Op.equalIn 9999 3 (.int .i64 N) (.int .i64 M)).run Try.prog w = .ok (N == M) w := h6
  generalize ((List.range 12).all fun k => X k == Y k) = b at *
  simp only [Op.eqFields, if_pos n1, if_pos n2, Sem.run_bind, h1, h3, h5', Result.andThen_ok]
  cases b with
  | false => simp only [Bool.not_false, if_true, Sem.run_pure, Bool.false_and]
  | true =>
    simp only [Bool.not_true, Bool.false_eq_true, if_false, Sem.run_bind, h2, h4, h6', Result.andThen_ok, Bool.true_and]
    cases (N == M) <;> simp [Sem.run_pure]

set_option maxRecDepth 100000 in
set_option maxHeartbeats 4000000 in
theorem want_say (X Y : Nat → Int) (N M : Int) (g : Nat) (w : World) (h : SB w g Y M) :
    Calls Try.prog 93 #[sayV X N, .pointer (some ⟨g, 0, none⟩)] w (RetB (.bool (noneS 12 ⟨X, N⟩ || (((List.range 12).all fun k => X k == Y k) && decide (N ≤ M)))) w) := by
  have q := fun w => eq144 X Y M M w
  obtain ⟨b, hb⟩ : ∃ b, b = (List.range 12).all fun k => X k == Y k := ⟨_, rfl⟩
  rw [← hb]
  simp only [← hb, beq_self_eq_true, Bool.and_true, sayC] at q
  have g144 : Try.prog.eqGuardType Try.prog.depth 144 = false := by kernel_rfl
  have hh := fun w => none_say X N w
  obtain ⟨c, hc⟩ : ∃ c, c = noneS 12 ⟨X, N⟩ := ⟨_, rfl⟩
  simp only [sayV, sayC, ← hc] at hh
  rw [← hc]
  have HHH := hid hh
  have HB := hid (bnew w (.cells (sayC X N) 144))
  have H2 : Hid (SB (w.alloc (.cells (sayC X N) 144)) w.heap.size X N) := hid (SB.new _ _ _)
  have H1 := hid (h.keep (bnew w (.cells (sayC X N) 144)))
  clear h hb hh hc
  unfold sayV
  go_enter Try.func93, Try.ntmps93
  go_upto_region 1 with fail
  change Code.wp _ _ _ _ (w.alloc (.cells (sayC X N) 144))
  generalize w.alloc (.cells (sayC X N) 144) = W1 at *
  obtain ⟨g2, hg2⟩ : ∃ g, g = w.heap.size := ⟨_, rfl⟩
  rw [← hg2] at H2 ⊢
  clear hg2
  obtain ⟨c0, c1, c2, c3, c4, c5, c6, c7, c8, c9, c10, c11, c12⟩ := H2.out.all
  cases c with
  | true =>
    go_wp2_with (go_at_call 91; (with_reducible refine (HHH.out _).mono ?_); rintro e w1 ⟨rfl, hb⟩; have HB := hid (HB.out.step hb); clear hb)
    go_ret
    exact ⟨rfl, HB.out⟩
  | false =>
    cases b
    all_goals
      go_wp2_with (go_at_call 91; (with_reducible refine (HHH.out _).mono ?_); rintro e w1 ⟨rfl, hb⟩; have HB := hid (HB.out.step hb); have H2 := hid (H2.out.keep hb); have H1 := hid (H1.out.keep hb); clear hb c0 c1 c2 c3 c4 c5 c6 c7 c8 c9 c10 c11 c12; obtain ⟨c0, c1, c2, c3, c4, c5, c6, c7, c8, c9, c10, c11, c12⟩ := H2.out.all; obtain ⟨d0, d1, d2, d3, d4, d5, d6, d7, d8, d9, d10, d11, d12⟩ := H1.out.all)
      go_ret
      exact ⟨rfl, HB.out⟩
set_option maxRecDepth 100000 in
set_option maxHeartbeats 4000000 in
theorem proved_want (l : List AM) (n : Nat) (hn : n ≤ 12) (ok : ∀ a, a ∈ l → Ok n 1000000 a) (p : List Stp) (a b : Option Addr) (cap cap' : Nat) (w : World) (x : AM) (g : Nat) (hg : SB w g (lnX x) x.M) (hl : Rd w a l) (hp : RdS w b p) (hll : l.length ≤ 1000000) (hpl : p.length ≤ 1000000) :
    Calls Try.prog 112 #[.slice a l.length cap, .slice b p.length cap', .func (.func 93) #[] #[.pointer (some ⟨g, 0, none⟩)]] w (RetB (.bool (prfB 12 l x p)) w) := by
  have hmf : ∀ (fn : Fn) (first cap : Array Value) (w : World), (Instr.makeFunc fn first cap).run Try.prog w = .ok (.func fn first cap) w := fun _ _ _ _ => rfl
  have HL := hid hl
  have HP := hid hp
  have HOK := hid ok
  clear hl hp ok
  have HB := hid (bnew w (.cells #[.bool false] 4))
  have HG := hid (hg.keep (bnew w (.cells #[.bool false] 4)))
  clear hg
  have HX : Hid ((w.alloc (.cells #[.bool false] 4)).heap[w.heap.size]? = some (.cells #[.bool false] 4 (0, 0))) := hid (heapn _ _ _ rfl)
  cases hs : sayS 12 l p with
  | none =>
    have hr : prfB 12 l x p = false := by unfold prfB; rw [hs]
    rw [hr]
    have HS := hid hs
    clear hs hr
    go_enter_defers Try.func112, Try.ntmps112
    go_wp2_with (go_at_call 120; (with_reducible refine (read_any l n hn HOK.out p a b cap cap' _ (HL.out.below HB.out) (HP.out.below HB.out) hll hpl).mono ?_); rintro e w1 ⟨hb, he⟩; rw [HS.out] at he; dsimp only at he; subst he; have HB := hid (HB.out.step hb); have HX := hid (keepBox hb HX.out); have HG := hid (HG.out.keep hb); have kc : w1.cell? ⟨w.heap.size, 0, none⟩ = some (.bool false) := cell_in HX.out rfl; have kf := froz_in (k := 0) HX.out; clear hb)
    refine leaves_cons (f := 119) (args := #[.pointer (some ⟨w.heap.size, 0, none⟩)]) (by simp) (by simp [go_sem]) ?_
    refine (catch_wrong ⟨w.heap.size, 0, none⟩ false _ kc kf).mono ?_
    rintro e u' w2 ⟨rfl, rfl, rfl⟩
    have HB := hid (Below.setCell HB.out (p := ⟨w.heap.size, 0, none⟩) (Nat.le_refl _) (.bool false))
    have kd : (w1.setCell ⟨w.heap.size, 0, none⟩ (.bool false)).cell? ⟨w.heap.size, 0, none⟩ = some (.bool false) := cell_in (heap_setCell_same _ _ _ _ _ _ HX.out) rfl
    simp [Leaves, settle, results, Try.results112, go_sem]
    rw [kd]
    exact ⟨_, rfl, rfl, HB.out⟩
  | some s =>
    have hr : prfB 12 l x p = (noneS 12 s || wantS 12 x s) := by unfold prfB; rw [hs]
    rw [hr]
    have HS := hid hs
    clear hs hr
    obtain ⟨X, N⟩ := s
    have hw : (noneS 12 ⟨X, N⟩ || wantS 12 x ⟨X, N⟩) = (noneS 12 ⟨X, N⟩ || (((List.range 12).all fun k => X k == lnX x k) && decide (N ≤ x.M))) := by
      congr 1
      unfold wantS
      congr 1
      rw [Bool.eq_iff_iff]
      simp
    rw [hw]
    obtain ⟨r, hrr⟩ : ∃ r, r = (noneS 12 ⟨X, N⟩ || (((List.range 12).all fun k => X k == lnX x k) && decide (N ≤ x.M))) := ⟨_, rfl⟩
    rw [← hrr]
    have HRR := hid hrr
    clear hw hrr
    go_enter_defers Try.func112, Try.ntmps112
    go_wp2_with (first
      | (go_at_call 120; (with_reducible refine (read_any l n hn HOK.out p a b cap cap' _ (HL.out.below HB.out) (HP.out.below HB.out) hll hpl).mono ?_); rintro e w1 ⟨hb, he⟩; rw [HS.out] at he; dsimp only at he; subst he; have HB := hid (HB.out.step hb); have HX := hid (keepBox hb HX.out); have HG := hid (HG.out.keep hb); have kc : w1.cell? ⟨w.heap.size, 0, none⟩ = some (.bool false) := cell_in HX.out rfl; have kf := froz_in (k := 0) HX.out; clear hb)
      | (go_at_call 93; (with_reducible refine (want_say X (lnX x) N x.M g _ HG.out).mono ?_); rw [← HRR.out]; rintro e w1 ⟨rfl, hb⟩; have HB := hid (HB.out.step hb); have HX := hid (keepBox hb HX.out); have HG := hid (HG.out.keep hb); have kc : w1.cell? ⟨w.heap.size, 0, none⟩ = some (.bool false) := cell_in HX.out rfl; have kf := froz_in (k := 0) HX.out; clear hb))
    refine leaves_cons (f := 119) (args := #[.pointer (some ⟨w.heap.size, 0, none⟩)]) (by simp) (by simp [go_sem]) ?_
    refine (catch_idle ⟨w.heap.size, 0, none⟩ _).mono ?_
    rintro e u' w2 ⟨rfl, rfl, rfl⟩
    have HB := hid (Below.setCell HB.out (p := ⟨w.heap.size, 0, none⟩) (Nat.le_refl _) (.bool r))
    have kd : (w1.setCell ⟨w.heap.size, 0, none⟩ (.bool r)).cell? ⟨w.heap.size, 0, none⟩ = some (.bool r) := cell_in (heap_setCell_same _ _ _ _ _ _ HX.out) rfl
    simp [Leaves, settle, results, Try.results112, go_sem]
    rw [kd]
    exact ⟨_, rfl, rfl, HB.out⟩

set_option maxHeartbeats 4000000 in
theorem checked_none (l : List AM) (n : Nat) (hn : n ≤ 12) (ok : ∀ a, a ∈ l → Ok n 1000000 a) (p : List Stp) (a b : Option Addr) (cap cap' : Nat) (w : World) (hl : Rd w a l) (hp : RdS w b p) (hll : l.length ≤ 1000000) (hpl : p.length ≤ 1000000) :
    Calls Try.prog 90 #[.slice a l.length cap, .slice b p.length cap', .func (.func 91) #[] #[]] w (RetB (.int .i64 (if refB 12 l p = true then 0 else 11)) w) := by
  have HL := hid hl
  have HP := hid hp
  have HOK := hid ok
  clear hl hp ok
  cases hr : refB 12 l p
  all_goals
    have HR := hid hr
    clear hr
    go_enter Try.func90, Try.ntmps90
    go_wp2_with (go_at_call 112; (with_reducible refine (proved_none l n hn HOK.out p a b cap cap' _ HL.out HP.out hll hpl).mono ?_); rw [HR.out]; rintro e w1 ⟨rfl, hb⟩)
    go_ret
    exact ⟨rfl, hb⟩
set_option maxHeartbeats 4000000 in
theorem checked_want (l : List AM) (n : Nat) (hn : n ≤ 12) (ok : ∀ a, a ∈ l → Ok n 1000000 a) (p : List Stp) (a b : Option Addr) (cap cap' : Nat) (w : World) (x : AM) (g : Nat) (hg : SB w g (lnX x) x.M) (hl : Rd w a l) (hp : RdS w b p) (hll : l.length ≤ 1000000) (hpl : p.length ≤ 1000000) :
    Calls Try.prog 90 #[.slice a l.length cap, .slice b p.length cap', .func (.func 93) #[] #[.pointer (some ⟨g, 0, none⟩)]] w (RetB (.int .i64 (if prfB 12 l x p = true then 0 else 11)) w) := by
  have HL := hid hl
  have HP := hid hp
  have HOK := hid ok
  have HG := hid hg
  clear hl hp ok hg
  cases hr : prfB 12 l x p
  all_goals
    have HR := hid hr
    clear hr
    go_enter Try.func90, Try.ntmps90
    go_wp2_with (go_at_call 112; (with_reducible refine (proved_want l n hn HOK.out p a b cap cap' _ x g HG.out HL.out HP.out hll hpl).mono ?_); rw [HR.out]; rintro e w1 ⟨rfl, hb⟩)
    go_ret
    exact ⟨rfl, hb⟩
set_option maxRecDepth 100000 in
set_option maxHeartbeats 4000000 in
/-- CheckRefute. -/
theorem checkref_any (n : Int) (l : List AM) (p : List Stp) (a b : Option Addr) (cap cap' : Nat) (w : World) (hl : Rd w a l) (hp : RdS w b p) (hll : l.length ≤ 1000000) (hpl : p.length ≤ 1000000) :
    Calls Try.prog 52 #[.int .i64 n, .slice a l.length cap, .slice b p.length cap'] w (RetB (.int .i64 (refN n l p)) w) := by
  have HL := hid hl
  have HP := hid hp
  clear hl hp
  by_cases h0 : checkN n l = 0
  · obtain ⟨⟨hn1, hn2⟩, _, hrs⟩ := checkN_in h0
    obtain ⟨N, rfl⟩ : ∃ N : Nat, n = (N : Int) := ⟨n.toNat, by omega⟩
    have hN : N ≤ 12 := by omega
    have hv : refB 12 l p = refB N l p := refB_van (rights_ok hrs) (by omega) (by omega) p
    have hr : refN N l p = if refB 12 l p = true then 0 else 11 := by
      unfold refN
      rw [if_pos h0, hv]
      rfl
    rw [hr]
    have HOK := hid (rights_ok hrs)
    have H0 := hid h0
    clear h0 hrs hv hr
    go_enter Try.func52, Try.ntmps52
    go_wp2_with (first
      | (go_at_call 31; (with_reducible refine (check_any N l a cap _ HL.out (by omega)).mono ?_); rw [H0.out]; rintro e w1 ⟨rfl, hb⟩; have HB := hid hb; clear hb)
      | (go_at_call 90; (with_reducible refine (checked_none l N hN HOK.out p a b cap cap' _ (HL.out.below HB.out) (HP.out.below HB.out) hll hpl).mono ?_); rintro e w2 ⟨rfl, hb⟩))
    all_goals go_ret
    all_goals exact ⟨rfl, HB.out.step hb⟩
  · have hr : refN n l p = checkN n l := by unfold refN; rw [if_neg h0]
    rw [hr]
    have hne : (checkN n l != 0) = true := by simpa using h0
    clear h0 hr
    go_enter Try.func52, Try.ntmps52
    go_wp2_with (go_at_call 31; (with_reducible refine (check_any n l a cap _ HL.out (by omega)).mono ?_); rintro e w1 ⟨rfl, hb⟩)
    go_ret
    exact ⟨rfl, hb⟩
set_option maxRecDepth 100000 in
set_option maxHeartbeats 4000000 in
/-- CheckProof. -/
theorem checkprf_any (n : Int) (l : List AM) (A P B Q M : Int) (p : List Stp) (a b : Option Addr) (cap cap' : Nat) (w : World) (hl : Rd w a l) (hp : RdS w b p) (hll : l.length ≤ 1000000) (hpl : p.length ≤ 1000000) :
    Calls Try.prog 53 #[.int .i64 n, .slice a l.length cap, .agg #[.int .i64 A, .int .i64 P, .int .i64 B, .int .i64 Q, .int .i64 M], .slice b p.length cap'] w (RetB (.int .i64 (if lineN n l ⟨A, P, B, Q, M⟩ = 0 then (if prfB n.toNat l ⟨A, P, B, Q, M⟩ p = true then 0 else 11) else lineN n l ⟨A, P, B, Q, M⟩)) w) := by
  have HL := hid hl
  have HP := hid hp
  clear hl hp
  by_cases h0 : lineN n l ⟨A, P, B, Q, M⟩ = 0
  · rw [if_pos h0]
    obtain ⟨hc0, hr0⟩ := lineN_zero h0
    obtain ⟨⟨hn1, hn2⟩, _, hrs⟩ := checkN_in hc0
    obtain ⟨N, rfl⟩ : ∃ N : Nat, n = (N : Int) := ⟨n.toNat, by omega⟩
    have hN : N ≤ 12 := by omega
    have o := right_ok hr0
    rw [Int.toNat_natCast, ← prfB_van (rights_ok hrs) (by omega) hN o p]
    have oA : 0 ≤ A ∧ A < 12 := ⟨o.a0, by have := o.an; simp only at this; omega⟩
    have oB : 0 ≤ B ∧ B < 12 := by
      by_cases hq : Q = 0
      · have := o.b0 hq
        simp only at this
        omega
      · have := o.b1 hq
        simp only at this
        omega
    have oN : Q ≠ 0 → A ≠ B := fun hq => by
      have := (o.b1 hq).2.2
      simp only at this
      omega
    have oZ : Q = 0 → B = 0 := fun hq => o.b0 hq
    have HO := hid (And.intro oA (And.intro oB (And.intro oN oZ)))
    have HOK := hid (rights_ok hrs)
    have H0 := hid h0
    have HB := hid (bnew w (.cells #[.int .i64 A, .int .i64 P, .int .i64 B, .int .i64 Q, .int .i64 M] 24))
    have HX : Hid ((w.alloc (.cells #[.int .i64 A, .int .i64 P, .int .i64 B, .int .i64 Q, .int .i64 M] 24)).heap[w.heap.size]? = some (.cells #[.int .i64 A, .int .i64 P, .int .i64 B, .int .i64 Q, .int .i64 M] 24 (0, 0))) := hid (by simp only [heap_alloc_if] <;> simp)
    obtain ⟨k0, k1, k2, k3, k4⟩ := AMat.of (x := ⟨A, P, B, Q, M⟩) HX.out
    simp only [Nat.zero_add] at k0 k1 k2 k3 k4
    obtain ⟨X, hX⟩ : ∃ X, X = lnX ⟨A, P, B, Q, M⟩ := ⟨_, rfl⟩
    have hh := fun w => of_say A P B Q M w HO.out.1 HO.out.2.1 HO.out.2.2.1 HO.out.2.2.2
    simp only [sayV, sayC, ← hX] at hh
    have HHH := hid hh
    have HXX := hid hX
    clear h0 hrs hc0 hr0 o oA oB oN oZ hh hX
    have hmf : ∀ (fn : Fn) (first cap : Array Value) (w : World), (Instr.makeFunc fn first cap).run Try.prog w = .ok (.func fn first cap) w := fun _ _ _ _ => rfl
    go_enter Try.func53, Try.ntmps53
    go_upto_region 5 with (first
      | (go_at_call 56; (with_reducible refine (line_any _ l A P B Q M a cap _ (HL.out.below HB.out) (by omega)).mono ?_); rw [H0.out]; rintro e w1 ⟨rfl, hb⟩; have HB := hid (HB.out.step hb); have HX := hid (keepBox hb HX.out); obtain ⟨k0, k1, k2, k3, k4⟩ := AMat.of (x := ⟨A, P, B, Q, M⟩) HX.out; simp only [Nat.zero_add] at k0 k1 k2 k3 k4; clear hb)
      | (go_at_call 92; (with_reducible refine (HHH.out _).mono ?_); rintro e w1 ⟨rfl, hb⟩; have HB := hid (HB.out.step hb); clear hb))
    have HS : Hid (SB (w1.alloc (.cells (sayC X M) 144)) w1.heap.size (lnX ⟨A, P, B, Q, M⟩) M) := hid (by rw [← HXX.out]; exact SB.new _ _ _)
    have HB := hid (bmore HB.out (.cells (sayC X M) 144))
    change Code.wp _ _ _ _ (w1.alloc (.cells (sayC X M) 144))
    generalize w1.alloc (.cells (sayC X M) 144) = W1 at *
    generalize w1.heap.size = g at *
    go_wp2_with (go_at_call 90; (with_reducible refine (checked_want l N hN HOK.out p a b cap cap' _ ⟨A, P, B, Q, M⟩ g HS.out (HL.out.below HB.out) (HP.out.below HB.out) hll hpl).mono ?_); rintro e w2 ⟨rfl, hb⟩)
    all_goals go_ret
    all_goals exact ⟨rfl, HB.out.step hb⟩
  · rw [if_neg h0]
    have hne : (lineN n l ⟨A, P, B, Q, M⟩ != 0) = true := by simpa using h0
    have HB := hid (bnew w (.cells #[.int .i64 A, .int .i64 P, .int .i64 B, .int .i64 Q, .int .i64 M] 24))
    clear h0
    go_enter Try.func53, Try.ntmps53
    go_wp2_with (go_at_call 56; (with_reducible refine (line_any n l A P B Q M a cap _ (HL.out.below HB.out) (by omega)).mono ?_); rintro e w1 ⟨rfl, hb⟩; have HB := hid (HB.out.step hb); clear hb)
    go_ret
    exact ⟨rfl, HB.out⟩
end Go.Proofs.Ytnjbahiaelehkaa
