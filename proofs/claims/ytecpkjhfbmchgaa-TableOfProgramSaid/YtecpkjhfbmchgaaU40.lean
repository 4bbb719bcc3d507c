/- What the argument of TableOfProgram is: a program in memory. -/
import Derived.Test.YtecpkjhfbmchgaaRows
import Derived.Test.YtecpkjhfbmchgaaU39
import Derived.ProofKit
import Derived.OpenShut
import Derived.Deep.Slices
import Derived.Deep.Fields
import Derived.Deep.Matrix
namespace Go.Proofs.Ytecpkjhfbmchgaa
open Go.ChangeShapes Go.WideShapes Go.ChangeAt Go.RowKit Go.Deep

theorem Try.own : ownKnob Try.prog.godebug = none := by kernel_rfl
theorem Try.laidOut : laidOutB Try.prog = true := by kernel_rfl
section
variable {H : Type} {enc : TypeId × Value → H} {W : World} {sp : Nat → Bool} {hd : Bool}
theorem choose_list {α : Type} {Q : Nat → α → Prop} : ∀ (n : Nat), (∀ i, i < n → ∃ x, Q i x) → ∃ l : List α, l.length = n ∧ ∀ i (h : i < l.length), Q i l[i]
  | 0, _ => ⟨[], rfl, fun i h => absurd h (Nat.not_lt_zero i)⟩
  | n + 1, h => by
    obtain ⟨l, hl, hq⟩ := choose_list n fun i hi => h i (by omega)
    obtain ⟨x, hx⟩ := h n (by omega)
    refine ⟨l ++ [x], by simp [hl], fun i hi => ?_⟩
    rw [List.length_append, List.length_singleton] at hi
    by_cases e : i < l.length
    · rw [List.getElem_append_left e]
      exact hq i e
    · have e2 : i = l.length := by omega
      subst e2
      rw [List.getElem_append_right (Nat.le_refl _)]
      simp only [Nat.sub_self, List.getElem_cons_zero]
      rw [hl]
      exact hx

theorem cell_lt {b off : Nat} {v : Value} (h : W.cell? ⟨b, off, none⟩ = some v) : b < W.heap.size := by
  unfold World.cell? at h
  cases hh : W.heap[b]? with
  | none => simp [hh] at h
  | some o => exact lt_of_heap hh

theorem at_zero {a : Addr} {v : Value} (h : W.cell? (a.add 0) = some v) : ∃ b off, a = ⟨b, off, none⟩ := by
  obtain ⟨b, off, spot⟩ := a
  have e : (⟨b, off, spot⟩ : Addr).add 0 = ⟨b, off, spot⟩ := by simp [Addr.add]
  rw [e] at h
  cases spot with
  | none => exact ⟨b, off, rfl⟩
  | some s =>
    unfold World.cell? at h
    cases hh : W.heap[b]? with
    | none => simp [hh] at h
    | some o => cases o <;> simp [hh] at h

theorem add_none (b off j : Nat) : (⟨b, off, none⟩ : Addr).add j = ⟨b, off + j, none⟩ := by
  unfold Addr.add
  by_cases h0 : j = 0
  · subst h0; simp
  · simp [h0]

theorem field_trod {t : TypeId} {fs : Array Field} (ht : Try.prog.underlying t = some (.struct fs)) (hone : oneCellFields Try.prog fs = true)
    {fuel : Nat} {cs : List Value} {y : DataW H × List MemPlace} (h : DataW.trod enc Try.prog W 0 sp hd fuel t cs = some y) : ∀ j f, fs[j]? = some f → ∃ n x, DataW.trod enc Try.prog W 0 sp hd n f.type ((cs.drop j).take 1) = some x := by
  intro j f hj
  obtain ⟨xs, n, _, _, _, hxl, hf⟩ := DataW.trod_struct ht h
  obtain ⟨ho, hk⟩ := hone_of hone j f hj
  have hjl : j < fs.size := (Array.getElem?_eq_some_iff.1 hj).1
  have h1 := hf j f hj
  rw [ho, hk, List.getElem?_eq_getElem (by omega)] at h1
  exact ⟨_, _, h1⟩

end
section
variable {H : Type} {enc : TypeId × Value → H} {W : World}
theorem drop_one {cs : List Value} {j : Nat} {v : Value} (h : (cs.drop j).take 1 = [v]) : cs[j]? = some v := by
  have e : ((cs.drop j).take 1)[0]? = some v := by rw [h]; rfl
  rw [List.getElem?_take, if_pos (by decide), List.getElem?_drop] at e
  simpa using e
/-- The elements of a slice of structs, cell by cell. -/
theorem struct_slice {ts t : TypeId} {fs : Array Field} (hs : Try.prog.underlying ts = some (.slice t)) (ht : Try.prog.underlying t = some (.struct fs)) (hone : oneCellFields Try.prog fs = true) (hC : Try.prog.cellsOf t = fs.size) (h0 : 0 < fs.size)
    {fuel : Nat} {cs : List Value} {x : DataW H × List MemPlace} (hf : DataW.trod enc Try.prog W 0 (fun _ => true) true fuel ts cs = some x) :
    ∃ a0 len cap, cs = [.slice a0 len cap] ∧ len ≤ 9223372036854775807 ∧ len ≤ cap ∧ ∀ i, i < len → ∃ b off, a0 = some ⟨b, off, none⟩ ∧ b < W.heap.size ∧ ∃ cs' : List Value, (∀ j, j < fs.size → W.cell? ⟨b, off + i * fs.size + j, none⟩ = cs'[j]?) ∧
      ∀ j T, (fs[j]?).map (·.type) = some T → ∃ n x, DataW.trod enc Try.prog W 0 (fun _ => true) true n T ((cs'.drop j).take 1) = some x := by
  rcases open_slice hs hf with ⟨hcs, hx⟩ | ⟨a, len', cap', m, n, D, Pl, hcs, hb, hl, hm, hmm, hx, hi⟩
  · exact ⟨none, 0, 0, hcs, Nat.zero_le _, Nat.zero_le _, fun i hi => absurd hi (Nat.not_lt_zero i)⟩
  · refine ⟨some a, len', cap', hcs, by unfold maxLen at hm; omega, hl, fun i hilt => ?_⟩
    have key : ∀ i, i < len' → ∃ cs' : List Value, (∀ j, j < fs.size → W.cell? (a.add (i * fs.size + j)) = cs'[j]?) ∧ (∃ v, cs'[0]? = some v) ∧
        ∀ j T, (fs[j]?).map (·.type) = some T → ∃ n x, DataW.trod enc Try.prog W 0 (fun _ => true) true n T ((cs'.drop j).take 1) = some x := by
      intro i hilt
      obtain ⟨cs', hc, ht'⟩ := hi i (by simp at hmm; omega)
      rw [hC] at hc
      obtain ⟨_, hcl, hat⟩ := World.cells?_some hc
      refine ⟨cs', fun j hj => by have := hat j hj; rw [Go.Deep.add_add] at this; exact this, ⟨_, List.getElem?_eq_getElem (by omega : 0 < cs'.length)⟩, fun j T hT => ?_⟩
      cases hj : fs[j]? with
      | none => rw [hj] at hT; cases hT
      | some f =>
        rw [hj] at hT
        cases hT
        exact field_trod ht hone ht' j f hj
    obtain ⟨c0, k1, ⟨v, k2⟩, _⟩ := key 0 (by omega)
    have hz := (k1 0 h0).trans k2
    obtain ⟨b, off, rfl⟩ := at_zero (by simpa using hz)
    obtain ⟨cs', q1, ⟨v', q2⟩, q3⟩ := key i hilt
    refine ⟨b, off, rfl, ?_, cs', fun j hj => ?_, q3⟩
    · have := (q1 0 h0).trans q2
      rw [add_none] at this
      exact cell_lt this
    · have := q1 j hj
      rwa [add_none, ← Nat.add_assoc] at this
theorem cells3 : Try.prog.cellsOf 3 = 1 := by kernel_rfl
theorem lit_ge {n : Int} (h : (Lit.int .i64 n).wf = true) : -9223372036854775808 ≤ n := by
  have := (bounds_i64 h).1
  exact this
set_option maxRecDepth 100000 in
theorem nums_trod {fuel : Nat} {cs : List Value} {x : DataW H × List MemPlace} (hf : DataW.trod enc Try.prog W 0 (fun _ => true) true fuel 33 cs = some x) :
    ∃ (l : List Int) (a : Option Addr) (cap : Nat), cs = [.slice a l.length cap] ∧ RdI W a l ∧ l.length ≤ 9223372036854775807 ∧ l.length ≤ cap ∧ ∀ e, e ∈ l → -9223372036854775808 ≤ e := by
  rcases open_ints Try.underlying33 Try.underlying3 cells3 hf with ⟨hcs, hx⟩ | ⟨a, len', cap', zs, hcs, _, hl, hm, hz, hx, hcell, hwz⟩
  · exact ⟨[], none, 0, hcs, fun i hi => absurd hi (Nat.not_lt_zero i), Nat.zero_le _, Nat.zero_le _, fun e he => by cases he⟩
  · simp only [if_true] at hz
    have hlen : (zs.take len').length = len' := by rw [List.length_take]; omega
    refine ⟨zs.take len', some a, cap', by rw [hlen]; exact hcs, fun i hi => ?_, by rw [hlen]; unfold maxLen at hm; omega, by rw [hlen]; exact hl, fun e he => lit_ge (hwz e (List.mem_of_mem_take he))⟩
    rw [hlen] at hi
    have h0 := hcell 0 (by omega)
    obtain ⟨b, off, rfl⟩ := at_zero h0
    have hc := hcell i (by omega)
    rw [add_none] at hc
    refine ⟨b, off, rfl, cell_lt hc, ?_⟩
    rw [hc, List.getElem_take, List.getD_eq_getElem?_getD, List.getElem?_eq_getElem (by omega)]
    rfl
end
end Go.Proofs.Ytecpkjhfbmchgaa
