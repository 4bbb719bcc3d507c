/- More arguments opened: numbers, steps. -/
import Derived.Test.YtnjbahiaelehkaaJ1
namespace Go.Proofs.Ytnjbahiaelehkaa
open Go.ChangeShapes Go.WideShapes Go.ChangeAt Go.RowKit Go.Deep

section
variable {H : Type} {enc : TypeId × Value → H} {W : World}

theorem cells3 : Try.prog.cellsOf 3 = 1 := by kernel_rfl
set_option maxRecDepth 100000 in
theorem open_nums {v : Value} {r : Reach} {base : Nat} {d : DataW H} {p : List MemPlace} (hv : Value.okWide Try.prog W r base 46 v) (h : DataW.Trod enc Try.prog W 0 (fun _ => true) true 46 v d p) :
    ∃ (l : List Int) (a : Option Addr) (cap : Nat), v = .slice a l.length cap ∧ RdI W a l ∧ l.length ≤ 9223372036854775807 := by
  obtain ⟨a0, len, cap, rfl⟩ := okWide_slice Try.underlying46 hv
  obtain ⟨fuel, hf⟩ := h
  rcases open_ints Try.underlying46 Try.underlying3 cells3 hf with ⟨hcs, hx⟩ | ⟨a, len', cap', zs, hcs, _, hl, hm, hz, hx, hcell, hwz⟩
  · simp [Value.cells] at hcs
    obtain ⟨rfl, rfl, rfl⟩ := hcs
    exact ⟨[], none, 0, rfl, fun i hi => absurd hi (Nat.not_lt_zero i), Nat.zero_le _⟩
  · simp [Value.cells] at hcs
    obtain ⟨rfl, rfl, rfl⟩ := hcs
    simp only [if_true] at hz
    have hlen : (zs.take len).length = len := by rw [List.length_take]; omega
    refine ⟨zs.take len, some a, cap, by rw [hlen], fun i hi => ?_, by rw [hlen]; unfold maxLen at hm; omega⟩
    rw [hlen] at hi
    have h0 := hcell 0 (by omega)
    obtain ⟨b, off, rfl⟩ := at_zero h0
    have hc := hcell i (by omega)
    rw [add_none] at hc
    refine ⟨b, off, rfl, cell_lt hc, ?_⟩
    rw [hc, List.getElem_take, List.getD_eq_getElem?_getD, List.getElem?_eq_getElem (by omega)]
    rfl
theorem fields166 : ∀ (fs : Array Field), Try.prog.underlying 166 = some (.struct fs) → fs.size = 3 ∧ oneCellFields Try.prog fs = true ∧ ∀ (j : Nat) (f : Field), fs[j]? = some f → f.type = 3 := by
  intro fs h
  rw [Try.underlying166] at h
  injection h with h
  injection h with h
  subst h
  refine ⟨rfl, by kernel_rfl, fun j f hj => ?_⟩
  match j, hj with
  | 0, hj => simp at hj; subst hj; rfl
  | 1, hj => simp at hj; subst hj; rfl
  | 2, hj => simp at hj; subst hj; rfl
  | j + 3, hj => simp at hj
set_option maxRecDepth 100000 in
theorem open_steps {v : Value} {r : Reach} {base : Nat} {d : DataW H} {p : List MemPlace} (hv : Value.okWide Try.prog W r base 63 v) (h : DataW.Trod enc Try.prog W 0 (fun _ => true) true 63 v d p) :
    ∃ (l : List Stp) (a : Option Addr) (cap : Nat), v = .slice a l.length cap ∧ RdS W a l ∧ l.length ≤ 9223372036854775807 := by
  obtain ⟨a0, len, cap, rfl⟩ := okWide_slice Try.underlying63 hv
  obtain ⟨h3, hone, hty⟩ := fields166 _ Try.underlying166
  obtain ⟨hm, hc⟩ := open_rows Try.underlying63 Try.underlying166 hone (by kernel_rfl) hty h
  obtain ⟨l, hl, hq⟩ := choose_list (Q := fun i (x : Stp) => ∃ b off, a0 = some ⟨b, off, none⟩ ∧ b < W.heap.size ∧ W.cell? ⟨b, off + i * 3, none⟩ = some (.int .i64 x.K) ∧ W.cell? ⟨b, off + i * 3 + 1, none⟩ = some (.int .i64 x.A) ∧ W.cell? ⟨b, off + i * 3 + 2, none⟩ = some (.int .i64 x.B)) len (by
    intro i hi
    obtain ⟨a', e', hz'⟩ := hc 0 (by omega)
    obtain ⟨y, hy⟩ := hz' 0 (by decide)
    obtain ⟨b, off, rfl⟩ := at_zero (by simpa using hy)
    obtain ⟨a, e, hz⟩ := hc i hi
    have e2 : a = ⟨b, off, none⟩ := by
      rw [e'] at e
      injection e with e
      exact e.symm
    subst e2
    have key : ∀ j, j < 3 → ∃ z, W.cell? ⟨b, off + i * 3 + j, none⟩ = some (.int .i64 z) := by
      intro j hj
      obtain ⟨z, h⟩ := hz j hj
      rw [add_none] at h
      have e3 : off + (i * 3 + j) = off + i * 3 + j := by omega
      exact ⟨z, by rw [← e3]; exact h⟩
    obtain ⟨z0, h0⟩ := key 0 (by decide)
    obtain ⟨z1, h1⟩ := key 1 (by decide)
    obtain ⟨z2, h2⟩ := key 2 (by decide)
    exact ⟨⟨z0, z1, z2⟩, b, off, e', cell_lt h0, h0, h1, h2⟩)
  refine ⟨l, a0, cap, by rw [hl], fun i hi => hq i hi, ?_⟩
  rw [hl]
  unfold maxLen at hm
  omega
end
theorem read46 : Try.prog.readableRec 46 = true := by kernel_rfl
theorem read63 : Try.prog.readableRec 63 = true := by kernel_rfl
theorem read5 : Try.prog.readableRec 5 = true := by kernel_rfl
theorem row46 : 46 < Try.prog.types.size := of_decide_eq_true (by kernel_rfl)
theorem row63 : 63 < Try.prog.types.size := of_decide_eq_true (by kernel_rfl)
theorem row5 : 5 < Try.prog.types.size := of_decide_eq_true (by kernel_rfl)
end Go.Proofs.Ytnjbahiaelehkaa
