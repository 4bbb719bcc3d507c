/- What the arguments of the laws are: folded matrices. -/
import Derived.Test.YtliajnflmddnoaaJ1
namespace Go.Proofs.Ytliajnflmddnoaa
open Go.RowKit
open Go.ChangeShapes Go.WideShapes Go.ChangeAt Go.RowKit Go.Deep

section
variable {H : Type} {enc : TypeId × Value → H} {W : World}
set_option maxRecDepth 100000 in
theorem rowp_trod {fuel : Nat} {cs : List Value} {x : DataW H × List MemPlace} (hf : DataW.trod enc Try.prog W 0 (fun _ => true) true fuel 24 cs = some x) :
    ∃ (R : List (List (Int × Int))) (a : Option Addr) (cap : Nat), cs = [.slice a R.length cap] ∧ RdG W a R ∧ R.length ≤ 9223372036854775807 ∧ ∀ q, q ∈ R → q.length ≤ 9223372036854775807 := by
  rcases open_slice Try.underlying24 hf with ⟨hcs, hx⟩ | ⟨a, len', cap', m, n, D, Pl, hcs, hb, hl, hm, hmm, hx, hi⟩
  · exact ⟨[], none, 0, hcs, fun i hi => absurd hi (Nat.not_lt_zero i), Nat.zero_le _, fun q hq => by cases hq⟩
  · obtain ⟨fs, k1, k2, k3, k4, k5⟩ := fields97
    have key : ∀ i, i < len' → ∃ (q : List (Int × Int)) (ai : Option Addr) (ci : Nat), W.cell? (a.add i) = some (.slice ai q.length ci) ∧ RdP W ai q ∧ q.length ≤ 9223372036854775807 := by
      intro i hilt
      obtain ⟨cs', hc, ht'⟩ := hi i (by simp at hmm; omega)
      rw [cells95] at hc
      obtain ⟨_, hcl, hat⟩ := World.cells?_some hc
      obtain ⟨q, ai, ci, e, h1, h2, _⟩ := pairs_trod Try.underlying95 k1 k3 k4 k2 k5 ht'
      have h0 := hat 0 (by decide)
      rw [Go.Deep.add_add, e, Nat.mul_one, Nat.add_zero] at h0
      exact ⟨q, ai, ci, h0, h1, h2⟩
    obtain ⟨R, hR, hq⟩ := choose_list (Q := fun i (q : List (Int × Int)) => (∃ b off, some a = some ⟨b, off, none⟩ ∧ b < W.heap.size ∧ ∃ ai ci, W.cell? ⟨b, off + i, none⟩ = some (.slice ai q.length ci) ∧ RdP W ai q) ∧ q.length ≤ 9223372036854775807) len' (by
      intro i hilt
      obtain ⟨_, _, _, h0, _, _⟩ := key 0 (by omega)
      obtain ⟨b, off, rfl⟩ := at_zero h0
      obtain ⟨q, ai, ci, h1, h2, h3⟩ := key i hilt
      rw [add_none] at h1
      exact ⟨q, ⟨b, off, rfl, cell_lt h1, ai, ci, h1, h2⟩, h3⟩)
    refine ⟨R, some a, cap', by rw [hR]; exact hcs, fun i hi => (hq i hi).1, ?_, fun q hqm => ?_⟩
    · rw [hR]
      unfold maxLen at hm
      omega
    · obtain ⟨i, hi, rfl⟩ := List.getElem_of_mem hqm
      exact (hq i hi).2
set_option maxRecDepth 100000 in
theorem open_folded {v : Value} {r : Reach} {base : Nat} {d : DataW H} {p : List MemPlace} (hv : Value.okWide Try.prog W r base 26 v) (h : DataW.Trod enc Try.prog W 0 (fun _ => true) true 26 v d p) :
    ∃ (C : List Int) (R : List (List (Int × Int))) (ac : Option Addr) (cc : Nat) (ar : Option Addr) (cr : Nat), v = .agg #[.slice ac C.length cc, .slice ar R.length cr] ∧ RdI W ac C ∧ RdG W ar R ∧ C.length ≤ 9223372036854775807 ∧ R.length ≤ 9223372036854775807 ∧ ∀ q, q ∈ R → q.length ≤ 9223372036854775807 := by
  obtain ⟨cs, rfl, hsz⟩ := okWide_struct Try.underlying26 hv
  have h5 : Try.prog.cellsOf 26 = 2 := by kernel_rfl
  rw [h5] at hsz
  obtain ⟨fuel, hf⟩ := h
  have hz := field_trod Try.underlying26 (by kernel_rfl) hf
  obtain ⟨l⟩ := cs
  obtain ⟨n0, x0, h0⟩ := hz 0 _ rfl
  obtain ⟨n1, x1, h1⟩ := hz 1 _ rfl
  match l, hsz with
  | [c0, c1], _ =>
    simp only [Value.cells] at h0 h1
    obtain ⟨C, ac, cc, e0, q1, q2, _⟩ := nums_trod h0
    obtain ⟨R, ar, cr, e1, q4, q5, q6⟩ := rowp_trod h1
    have g0 : c0 = Value.slice ac C.length cc := (List.cons.inj (show [c0] = [Value.slice ac C.length cc] from e0)).1
    have g1 : c1 = Value.slice ar R.length cr := (List.cons.inj (show [c1] = [Value.slice ar R.length cr] from e1)).1
    clear e0 e1
    subst g0
    subst g1
    exact ⟨C, R, ac, cc, ar, cr, rfl, q1, q4, q2, q5, q6⟩
end
end Go.Proofs.Ytliajnflmddnoaa
