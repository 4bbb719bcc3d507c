/- What the arguments of the laws are: lines, numbers, steps. More arguments opened: numbers, steps. -/
import Derived.Test.YtnjbahiaelehkaaRows
import Derived.Test.YtnjbahiaelehkaaB4
import Derived.ProofKit
import Derived.Deep.Slices
import Derived.Deep.Fields
namespace Go.Proofs.Ytnjbahiaelehkaa
open Go.RowKit

open Go.ChangeShapes Go.WideShapes Go.ChangeAt Go.RowKit Go.Deep

theorem Try.own : ownKnob Try.prog.godebug = none := by kernel_rfl
theorem Try.laidOut : laidOutB Try.prog = true := by kernel_rfl

section
variable {H : Type} {enc : TypeId × Value → H} {W : World} {sp : Nat → Bool} {hd : Bool}

theorem struct_ints {t : TypeId} {fs : Array Field} (ht : Try.prog.underlying t = some (.struct fs)) (hone : oneCellFields Try.prog fs = true) (h3 : ∀ (j : Nat) (f : Field), fs[j]? = some f → f.type = 3)
    {fuel : Nat} {cs : List Value} {y : DataW H × List MemPlace} (h : DataW.trod enc Try.prog W 0 sp hd fuel t cs = some y) : ∀ j, j < fs.size → ∃ z, cs[j]? = some (.int .i64 z) := by
  intro j hj
  obtain ⟨xs, n, _, _, _, hxl, hf⟩ := DataW.trod_struct ht h
  have hfj : fs[j]? = some fs[j] := Array.getElem?_eq_getElem hj
  obtain ⟨ho, hk⟩ := hone_of hone j fs[j] hfj
  have h1 := hf j fs[j] hfj
  rw [ho, hk, h3 j fs[j] hfj, List.getElem?_eq_getElem (by omega)] at h1
  obtain ⟨z, hz, _⟩ := DataW.trod_int Try.underlying3 h1
  refine ⟨z, ?_⟩
  have e : ((cs.drop j).take 1)[0]? = some (.int .i64 z) := by rw [hz]; rfl
  rw [List.getElem?_take, if_pos (by decide), List.getElem?_drop] at e
  simpa using e
theorem choose_list {α : Type} {Q : Nat → α → Prop} : ∀ (n : Nat), (∀ i, i < n → ∃ x, Q i x) → ∃ l : List α, l.length = n ∧ ∀ i (h : i < l.length), Q i l[i]
  | 0, _ => ⟨[], rfl, fun i h => absurd h (Nat.not_lt_zero i)⟩
  | n + 1, h => by
    obtain ⟨l, hl, hq⟩ := choose_list n fun i hi => h i (by omega)
    obtain ⟨x, hx⟩ := h n (by omega)
    refine ⟨l ++ [x], by simp [hl], fun i hi => ?_⟩
    rw [List.length_append, List.length_singleton] at hi
    by_cases e : i < l.length
    · rw [List.getElem_append_left e]
      exact hq i e
    · have e2 : i = l.length := by omega
      subst e2
      rw [List.getElem_append_right (Nat.le_refl _)]
      simp only [Nat.sub_self, List.getElem_cons_zero]
      rw [hl]
      exact hx
theorem cell_lt {b off : Nat} {v : Value} (h : W.cell? ⟨b, off, none⟩ = some v) : b < W.heap.size := by
  unfold World.cell? at h
  cases hh : W.heap[b]? with
  | none => simp [hh] at h
  | some o => exact lt_of_heap hh
theorem at_zero {a : Addr} {v : Value} (h : W.cell? (a.add 0) = some v) : ∃ b off, a = ⟨b, off, none⟩ := by
  obtain ⟨b, off, spot⟩ := a
  have e : (⟨b, off, spot⟩ : Addr).add 0 = ⟨b, off, spot⟩ := by simp [Addr.add]
  rw [e] at h
  cases spot with
  | none => exact ⟨b, off, rfl⟩
  | some s =>
    unfold World.cell? at h
    cases hh : W.heap[b]? with
    | none => simp [hh] at h
    | some o => cases o <;> simp [hh] at h
theorem add_none (b off j : Nat) : (⟨b, off, none⟩ : Addr).add j = ⟨b, off + j, none⟩ := by
  unfold Addr.add
  by_cases h0 : j = 0
  · subst h0; simp
  · simp [h0]
/-- A slice of structs of whole numbers: its cells. -/
theorem open_rows {ts t : TypeId} {fs : Array Field} (hs : Try.prog.underlying ts = some (.slice t)) (ht : Try.prog.underlying t = some (.struct fs)) (hone : oneCellFields Try.prog fs = true) (hC : Try.prog.cellsOf t = fs.size) (h3 : ∀ (j : Nat) (f : Field), fs[j]? = some f → f.type = 3)
    {a0 : Option Addr} {len cap : Nat} {d : DataW H} {p : List MemPlace} (h : DataW.Trod enc Try.prog W 0 (fun _ => true) true ts (.slice a0 len cap) d p) :
    len ≤ maxLen ∧ ∀ i, i < len → ∃ a, a0 = some a ∧ ∀ j, j < fs.size → ∃ z, W.cell? (a.add (i * fs.size + j)) = some (.int .i64 z) := by
  obtain ⟨fuel, hf⟩ := h
  rcases open_slice hs hf with ⟨hcs, hx⟩ | ⟨a, len', cap', m, n, D, Pl, hcs, hb, hl, hm, hmm, hx, hi⟩
  · simp [Value.cells] at hcs
    obtain ⟨rfl, rfl, rfl⟩ := hcs
    exact ⟨Nat.zero_le _, fun i hi => absurd hi (Nat.not_lt_zero i)⟩
  · simp [Value.cells] at hcs
    obtain ⟨rfl, rfl, rfl⟩ := hcs
    refine ⟨Nat.le_trans hl hm, fun i hilt => ⟨a, rfl, fun j hj => ?_⟩⟩
    obtain ⟨cs', hc, ht'⟩ := hi i (by simp at hmm; omega)
    rw [hC] at hc
    obtain ⟨_, hcl, hat⟩ := World.cells?_some hc
    obtain ⟨z, hz⟩ := struct_ints ht hone h3 ht' j hj
    refine ⟨z, ?_⟩
    have := hat j hj
    rw [Go.Deep.add_add] at this
    rw [this]
    exact hz
theorem fields24 : ∀ (j : Nat) (f : Field), (#[{ name := "A", type := 3, offset := 0, embedded := false, tag := "", pkgPath := "", byteOffset := 0 }, { name := "P", type := 3, offset := 1, embedded := false, tag := "", pkgPath := "", byteOffset := 8 }, { name := "B", type := 3, offset := 2, embedded := false, tag := "", pkgPath := "", byteOffset := 16 }, { name := "Q", type := 3, offset := 3, embedded := false, tag := "", pkgPath := "", byteOffset := 24 }, { name := "Most", type := 3, offset := 4, embedded := false, tag := "", pkgPath := "", byteOffset := 32 }] : Array Field)[j]? = some f → f.type = 3 := by
  intro j f h
  match j, h with
  | 0, h => simp at h; subst h; rfl
  | 1, h => simp at h; subst h; rfl
  | 2, h => simp at h; subst h; rfl
  | 3, h => simp at h; subst h; rfl
  | 4, h => simp at h; subst h; rfl
  | j + 5, h => simp at h
set_option maxRecDepth 100000 in
theorem open_lines {v : Value} {r : Reach} {base : Nat} {d : DataW H} {p : List MemPlace} (hv : Value.okWide Try.prog W r base 22 v) (h : DataW.Trod enc Try.prog W 0 (fun _ => true) true 22 v d p) :
    ∃ (l : List AM) (a : Option Addr) (cap : Nat), v = .slice a l.length cap ∧ Rd W a l ∧ l.length ≤ 9223372036854775807 := by
  obtain ⟨a0, len, cap, rfl⟩ := okWide_slice Try.underlying22 hv
  obtain ⟨hm, hc⟩ := open_rows Try.underlying22 Try.underlying24 (by kernel_rfl) (by kernel_rfl) fields24 h
  obtain ⟨l, hl, hq⟩ := choose_list (Q := fun i (x : AM) => ∃ b off, a0 = some ⟨b, off, none⟩ ∧ b < W.heap.size ∧ AMat W b (off + i * 5) x) len (by
    intro i hi
    obtain ⟨a', e', hz'⟩ := hc 0 (by omega)
    obtain ⟨y, hy⟩ := hz' 0 (by decide)
    obtain ⟨b, off, rfl⟩ := at_zero (by simpa using hy)
    obtain ⟨a, e, hz⟩ := hc i hi
    have e2 : a = ⟨b, off, none⟩ := by
      rw [e'] at e
      injection e with e
      exact e.symm
    subst e2
    have key : ∀ j, j < 5 → ∃ z, W.cell? ⟨b, off + i * 5 + j, none⟩ = some (.int .i64 z) := by
      intro j hj
      obtain ⟨z, h⟩ := hz j hj
      rw [add_none, ← Nat.add_assoc] at h
      exact ⟨z, h⟩
    obtain ⟨z0, h0⟩ := key 0 (by decide)
    obtain ⟨z1, h1⟩ := key 1 (by decide)
    obtain ⟨z2, h2⟩ := key 2 (by decide)
    obtain ⟨z3, h3⟩ := key 3 (by decide)
    obtain ⟨z4, h4⟩ := key 4 (by decide)
    exact ⟨⟨z0, z1, z2, z3, z4⟩, b, off, e', cell_lt h0, h0, h1, h2, h3, h4⟩)
  refine ⟨l, a0, cap, by rw [hl], fun i hi => hq i hi, ?_⟩
  rw [hl]
  unfold maxLen at hm
  omega
set_option maxRecDepth 100000 in
theorem open_line {v : Value} {r : Reach} {base : Nat} {d : DataW H} {p : List MemPlace} (hv : Value.okWide Try.prog W r base 24 v) (h : DataW.Trod enc Try.prog W 0 (fun _ => true) true 24 v d p) :
    ∃ A P B Q M, v = .agg #[.int .i64 A, .int .i64 P, .int .i64 B, .int .i64 Q, .int .i64 M] := by
  obtain ⟨cs, rfl, hsz⟩ := okWide_struct Try.underlying24 hv
  have h5 : Try.prog.cellsOf 24 = 5 := by kernel_rfl
  rw [h5] at hsz
  obtain ⟨fuel, hf⟩ := h
  have hz := struct_ints Try.underlying24 (by kernel_rfl) fields24 hf
  obtain ⟨l⟩ := cs
  obtain ⟨z0, h0⟩ := hz 0 (by decide)
  obtain ⟨z1, h1⟩ := hz 1 (by decide)
  obtain ⟨z2, h2⟩ := hz 2 (by decide)
  obtain ⟨z3, h3⟩ := hz 3 (by decide)
  obtain ⟨z4, h4⟩ := hz 4 (by decide)
  match l, hsz with
  | [c0, c1, c2, c3, c4], _ =>
    simp [Value.cells] at h0 h1 h2 h3 h4
    subst h0; subst h1; subst h2; subst h3; subst h4
    exact ⟨_, _, _, _, _, rfl⟩
end

/-- An argument reads as it did in a world that has only grown. -/
theorem stays {H : Type} {enc : TypeId × Value → H} {t : TypeId} (hr : Try.prog.readableRec t = true) (hrow : t < Try.prog.types.size) {W W' : World} {v : Value} {d : DataW H} {ps : List MemPlace}
    (h : DataW.Trod enc Try.prog W 0 (fun _ => true) true t v d ps) (hb : Below W.heap.size W W') (hlt : ∀ x ∈ ps, x.block < W.heap.size) : DataW.Trod enc Try.prog W' 0 (fun b => decide (b < W.heap.size)) true t v d ps :=
  Below.trod Try.laidOut hr hrow h hb hlt
theorem read3 : Try.prog.readableRec 3 = true := by kernel_rfl
theorem read22 : Try.prog.readableRec 22 = true := by kernel_rfl
theorem read24 : Try.prog.readableRec 24 = true := by kernel_rfl
theorem row3 : 3 < Try.prog.types.size := of_decide_eq_true (by kernel_rfl)
theorem row22 : 22 < Try.prog.types.size := of_decide_eq_true (by kernel_rfl)
theorem row24 : 24 < Try.prog.types.size := of_decide_eq_true (by kernel_rfl)

open Go.ChangeShapes Go.WideShapes Go.ChangeAt Go.RowKit Go.Deep

section
variable {H : Type} {enc : TypeId × Value → H} {W : World}

theorem cells3 : Try.prog.cellsOf 3 = 1 := by kernel_rfl
set_option maxRecDepth 100000 in
theorem open_nums {v : Value} {r : Reach} {base : Nat} {d : DataW H} {p : List MemPlace} (hv : Value.okWide Try.prog W r base 46 v) (h : DataW.Trod enc Try.prog W 0 (fun _ => true) true 46 v d p) :
    ∃ (l : List Int) (a : Option Addr) (cap : Nat), v = .slice a l.length cap ∧ RdI W a l ∧ l.length ≤ 9223372036854775807 := by
  obtain ⟨a0, len, cap, rfl⟩ := okWide_slice Try.underlying46 hv
  obtain ⟨fuel, hf⟩ := h
  rcases open_ints Try.underlying46 Try.underlying3 cells3 hf with ⟨hcs, hx⟩ | ⟨a, len', cap', zs, hcs, _, hl, hm, hz, hx, hcell, hwz⟩
  · simp [Value.cells] at hcs
    obtain ⟨rfl, rfl, rfl⟩ := hcs
    exact ⟨[], none, 0, rfl, fun i hi => absurd hi (Nat.not_lt_zero i), Nat.zero_le _⟩
  · simp [Value.cells] at hcs
    obtain ⟨rfl, rfl, rfl⟩ := hcs
    simp only [if_true] at hz
    have hlen : (zs.take len).length = len := by rw [List.length_take]; omega
    refine ⟨zs.take len, some a, cap, by rw [hlen], fun i hi => ?_, by rw [hlen]; unfold maxLen at hm; omega⟩
    rw [hlen] at hi
    have h0 := hcell 0 (by omega)
    obtain ⟨b, off, rfl⟩ := at_zero h0
    have hc := hcell i (by omega)
    rw [add_none] at hc
    refine ⟨b, off, rfl, cell_lt hc, ?_⟩
    rw [hc, List.getElem_take, List.getD_eq_getElem?_getD, List.getElem?_eq_getElem (by omega)]
    rfl
theorem fields166 : ∀ (fs : Array Field), Try.prog.underlying 166 = some (.struct fs) → fs.size = 3 ∧ oneCellFields Try.prog fs = true ∧ ∀ (j : Nat) (f : Field), fs[j]? = some f → f.type = 3 := by
  intro fs h
  rw [Try.underlying166] at h
  injection h with h
  injection h with h
  subst h
  refine ⟨rfl, by kernel_rfl, fun j f hj => ?_⟩
  match j, hj with
  | 0, hj => simp at hj; subst hj; rfl
  | 1, hj => simp at hj; subst hj; rfl
  | 2, hj => simp at hj; subst hj; rfl
  | j + 3, hj => simp at hj
set_option maxRecDepth 100000 in
theorem open_steps {v : Value} {r : Reach} {base : Nat} {d : DataW H} {p : List MemPlace} (hv : Value.okWide Try.prog W r base 63 v) (h : DataW.Trod enc Try.prog W 0 (fun _ => true) true 63 v d p) :
    ∃ (l : List Stp) (a : Option Addr) (cap : Nat), v = .slice a l.length cap ∧ RdS W a l ∧ l.length ≤ 9223372036854775807 := by
  obtain ⟨a0, len, cap, rfl⟩ := okWide_slice Try.underlying63 hv
  obtain ⟨h3, hone, hty⟩ := fields166 _ Try.underlying166
  obtain ⟨hm, hc⟩ := open_rows Try.underlying63 Try.underlying166 hone (by kernel_rfl) hty h
  obtain ⟨l, hl, hq⟩ := choose_list (Q := fun i (x : Stp) => ∃ b off, a0 = some ⟨b, off, none⟩ ∧ b < W.heap.size ∧ W.cell? ⟨b, off + i * 3, none⟩ = some (.int .i64 x.K) ∧ W.cell? ⟨b, off + i * 3 + 1, none⟩ = some (.int .i64 x.A) ∧ W.cell? ⟨b, off + i * 3 + 2, none⟩ = some (.int .i64 x.B)) len (by
    intro i hi
    obtain ⟨a', e', hz'⟩ := hc 0 (by omega)
    obtain ⟨y, hy⟩ := hz' 0 (by decide)
    obtain ⟨b, off, rfl⟩ := at_zero (by simpa using hy)
    obtain ⟨a, e, hz⟩ := hc i hi
    have e2 : a = ⟨b, off, none⟩ := by
      rw [e'] at e
      injection e with e
      exact e.symm
    subst e2
    have key : ∀ j, j < 3 → ∃ z, W.cell? ⟨b, off + i * 3 + j, none⟩ = some (.int .i64 z) := by
      intro j hj
      obtain ⟨z, h⟩ := hz j hj
      rw [add_none] at h
      have e3 : off + (i * 3 + j) = off + i * 3 + j := by omega
      exact ⟨z, by rw [← e3]; exact h⟩
    obtain ⟨z0, h0⟩ := key 0 (by decide)
    obtain ⟨z1, h1⟩ := key 1 (by decide)
    obtain ⟨z2, h2⟩ := key 2 (by decide)
    exact ⟨⟨z0, z1, z2⟩, b, off, e', cell_lt h0, h0, h1, h2⟩)
  refine ⟨l, a0, cap, by rw [hl], fun i hi => hq i hi, ?_⟩
  rw [hl]
  unfold maxLen at hm
  omega
end
theorem read46 : Try.prog.readableRec 46 = true := by kernel_rfl
theorem read63 : Try.prog.readableRec 63 = true := by kernel_rfl
theorem read5 : Try.prog.readableRec 5 = true := by kernel_rfl
theorem row46 : 46 < Try.prog.types.size := of_decide_eq_true (by kernel_rfl)
theorem row63 : 63 < Try.prog.types.size := of_decide_eq_true (by kernel_rfl)
theorem row5 : 5 < Try.prog.types.size := of_decide_eq_true (by kernel_rfl)
end Go.Proofs.Ytnjbahiaelehkaa
