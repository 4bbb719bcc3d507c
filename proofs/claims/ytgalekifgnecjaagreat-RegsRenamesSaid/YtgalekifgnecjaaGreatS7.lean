/- Clashes of a unit that can be written anew: what they are made of. -/
import Derived.Test.YtgalekifgnecjaaGreatS4
import Derived.Test.YtgalekifgnecjaaGreatN1
namespace Go.Proofs.YtgalekifgnecjaaGreat
open Go.RowKit Go.Shelf
theorem OwnI.kept {w w' : World} {base : Nat} {v : Value} {l : List Int} {row : Option Nat} (h : OwnI w base v l) (hg : w.grownBy w' row) (hn : ∀ b, v.ownBlock = some b → some b ≠ row) : OwnI w' base v l :=
  own_later h (fun b hb hlt => hg.block b hlt (hn b hb))
theorem grown_below {w w' : World} (h : Below w.heap.size w w') (row : Option Nat) : w.grownBy w' row := ⟨h.os, h.tape, h.output, h.size, fun k hk _ => h.block k hk⟩
theorem writ_ins {u : UntN} (hw : writB u = true) {k : Nat} (hk : k < u.code.length) : writIns u (firstsL u.code) k = true := by
  simp only [writB, Bool.and_eq_true, List.all_eq_true] at hw
  exact hw.2 k (List.mem_range.2 hk)
theorem writ_readIn {u : UntN} (hw : writB u = true) {k : Nat} (hk : k < u.code.length) : ∀ x ∈ readsL u.code[k], 0 ≤ x ∧ x < u.slots := by
  intro x hx
  have h2 := writ_ins hw hk
  unfold writIns at h2
  simp only [Bool.and_eq_true, List.all_eq_true] at h2
  have h3 := h2.1.1.1.1.1.1 x (by rw [getD_in hk]; exact hx)
  simp only [inN, Bool.and_eq_true, decide_eq_true_eq] at h3
  omega
theorem writ_writeIn {u : UntN} (hw : writB u = true) {k : Nat} (hk : k < u.code.length) : -1 ≤ writesI u.code[k] ∧ writesI u.code[k] < u.slots := by
  have h2 := writ_ins hw hk
  have h0 : 1 ≤ u.slots := by
    simp only [writB, Bool.and_eq_true, decide_eq_true_eq] at hw
    exact hw.1.1.1.2
  unfold writIns at h2
  simp only [Bool.and_eq_true] at h2
  have h3 := h2.1.1.1.1.1.2
  rw [getD_in hk] at h3
  simp only [inN, Bool.or_eq_true, beq_iff_eq, Bool.and_eq_true, decide_eq_true_eq] at h3
  omega
theorem live_in {u : UntN} (hw : writB u = true) (t : Nat) : ∀ x ∈ (liveL u).getD t [], 0 ≤ x ∧ x < u.slots := by
  intro x hx
  have h1 := (live_good u).un t x hx
  unfold univL at h1
  rw [List.mem_flatMap] at h1
  obtain ⟨y, hy, hx2⟩ := h1
  obtain ⟨k, hk, rfl⟩ := List.getElem_of_mem hy
  exact writ_readIn hw hk x hx2
theorem needL_mem {L : List (List Int)} {x : Int} : ∀ {ps : List Int}, x ∈ needL L ps ↔ ∃ p ∈ ps, x ∈ L.getD p.toNat [] := by
  have h : ∀ (ps : List Int) (s : List Int), x ∈ ps.foldl (fun out p => addL out (L.getD p.toNat [])) s ↔ x ∈ s ∨ ∃ p ∈ ps, x ∈ L.getD p.toNat [] := by
    intro ps
    induction ps with
    | nil => intro s; simp
    | cons p ps ih =>
      intro s
      rw [List.foldl_cons, ih, addL_mem]
      simp only [List.mem_cons, exists_eq_or_imp]
      constructor
      · rintro ((h | h) | h)
        · exact .inl h
        · exact .inr (.inl h)
        · exact .inr (.inr h)
      · rintro (h | h | h)
        · exact .inl (.inl h)
        · exact .inl (.inr h)
        · exact .inr h
  intro ps
  unfold needL
  rw [h]
  simp
theorem need_in {u : UntN} (hw : writB u = true) (ps : List Int) : ∀ x ∈ needL (liveL u) ps, 0 ≤ x ∧ x < u.slots := by
  intro x hx
  obtain ⟨p, _, hx⟩ := needL_mem.1 hx
  exact live_in hw _ x hx
theorem writ_args {u : UntN} (hw : writB u = true) : 0 ≤ u.args ∧ u.args ≤ u.slots ∧ 1 ≤ u.slots ∧ u.slots ≤ 200 := by
  have hs := plain_slots (writ_plain hw)
  simp only [writB, inN, Bool.and_eq_true, decide_eq_true_eq] at hw
  omega
theorem clIns_good {u : UntN} (hw : writB u = true) {l : List (Int × Int)} (hl : GoodP u.slots l) {t : Nat} (ht : t < u.code.length) : GoodP u.slots (clIns u (liveL u) l t) := by
  unfold clIns
  split
  · rename_i h
    rw [getD_in ht] at *
    exact foldNote_good ⟨h, (writ_writeIn hw ht).2⟩ _ hl (need_in hw _)
  · exact hl
theorem clFold_good {u : UntN} (hw : writB u = true) {l : List (Int × Int)} (hl : GoodP u.slots l) : ∀ (k : Nat), k ≤ u.code.length → GoodP u.slots ((List.range k).foldl (clIns u (liveL u)) l)
  | 0, _ => hl
  | k + 1, h => by
    rw [List.range_succ, List.foldl_append]
    exact clIns_good hw (clFold_good hw hl k (by omega)) (by omega)
theorem clStart_good {u : UntN} (hw : writB u = true) : GoodP u.slots (clLive (clArgs [] u.args.toNat) ((liveL u).getD 0 []) u.args.toNat) := by
  have h := writ_args hw
  exact clLive_good (live_in hw 0) (clArgs_good _ (by omega)) _ (by omega)
theorem clashL_good {u : UntN} (hw : writB u = true) : GoodP u.slots (clashL u) := clFold_good hw (clStart_good hw) _ (Nat.le_refl _)
theorem clB_sym (cl : List (Int × Int)) (a b : Int) : clB cl a b = clB cl b a := by
  unfold clB pairP
  rw [show min a b = min b a by omega, show max a b = max b a by omega]
theorem clB_ne {u : UntN} (hw : writB u = true) {a b : Int} (h : clB (clashL u) a b = true) : a ≠ b := by
  unfold clB at h
  have := (clashL_good hw).2 _ (List.contains_iff_mem.1 h)
  unfold pairP at this
  simp only at this
  omega
end Go.Proofs.YtgalekifgnecjaaGreat
