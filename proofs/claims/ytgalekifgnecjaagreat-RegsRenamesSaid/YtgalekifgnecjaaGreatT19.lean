/- The reader's group of package regs (under way). -/
import Derived.Test.YtgalekifgnecjaaGreatT18
import Derived.Test.YtgalekifgnecjaaGreatN6
import Derived.Test.YtgalekifgnecjaaGreatS6
namespace Go.Proofs.YtgalekifgnecjaaGreat
open Go.RowKit Go.Shelf
attribute [local go_sem] Oper.semAt_some
attribute [local irreducible] wpStill
/-- The boxes of group. -/
structure GpI (w0 : World) (r : RdrN) (a b1 b2 : Nat) (x : GrX) (w : World) : Prop where
  hi : RI w0 r a w
  h1 : w.heap[b1]? = some (.cells #[.pointer (some ⟨w0.heap.size, 0, none⟩)] 177)
  h2 : w.heap[b2]? = some (.cells #[.int .i64 x.g.frm, .int .i64 x.g.til, .slice x.a x.g.reads.length x.c, .int .i64 x.g.wr] 107)
theorem GpI.below {w0 : World} {r : RdrN} {a b1 b2 : Nat} {x : GrX} {w w' : World} (h : GpI w0 r a b1 b2 x w) (hb : Below w.heap.size w w') : GpI w0 r a b1 b2 x w' := ⟨h.hi.below hb, keepBox hb h.h1, keepBox hb h.h2⟩
theorem nextL_in {u : UntN} (hp : plainB u = true) {t : Nat} (ht : t < u.code.length) : ∀ p ∈ nextL u t, 0 ≤ p ∧ p < u.code.length := by
  intro p hp2
  rw [nextL_eq, addL_mem] at hp2
  rcases hp2 with h | h
  · exact bySelf_in hp ht p h
  · unfold nxOne at h
    split at h
    · rename_i hc
      simp only [Bool.and_eq_true, decide_eq_true_eq] at hc
      have hg : (guardL u t).toNat < u.guards.length := by have := guard_lt u t; omega
      rw [List.mem_singleton.1 h, getD_in hg]
      have := plain_at hp hg
      omega
    · simp at h
theorem nextL_len (u : UntN) (t : Nat) : (nextL u t).length ≤ 3 := by
  rw [nextL_eq]
  have h1 := addL_len (bySelf u t) (nxOne u t)
  have h2 := bySelf_len u t
  have h3 : (nxOne u t).length ≤ 1 := by unfold nxOne; split <;> simp
  omega
/-- A group of a unit. -/
structure GrpOk (u : UntN) (g : GrpN) : Prop where
  lt : g.til < u.code.length
  le : g.frm ≤ g.til
  rd : ∀ s ∈ g.reads, 0 ≤ s ∧ s < u.slots
  wr : g.wr = writesI (u.code.getD g.til ins0)
  ra : ∀ i, g.frm ≤ i → i ≤ g.til → ∀ s ∈ readsL (u.code.getD i ins0), s ∈ g.reads
  rq : g.reads = grpReads u.code g.frm g.til
theorem grpReads_mem {code : List InsN} {i j : Nat} {s : Int} : s ∈ grpReads code i j ↔ ∃ y ∈ (code.drop i).take (j + 1 - i), s ∈ readsL y := by
  have h : ∀ (l : List InsN) (acc : List Int), s ∈ l.foldl (fun l x => addL l (readsL x)) acc ↔ s ∈ acc ∨ ∃ y ∈ l, s ∈ readsL y := by
    intro l
    induction l with
    | nil => intro acc; simp
    | cons y l ih =>
      intro acc
      rw [List.foldl_cons, ih, addL_mem]
      simp only [List.mem_cons, exists_eq_or_imp]
      constructor
      · rintro ((h | h) | h)
        · exact .inl h
        · exact .inr (.inl h)
        · exact .inr (.inr h)
      · rintro (h | h | h)
        · exact .inl (.inl h)
        · exact .inl (.inr h)
        · exact .inr h
  unfold grpReads
  rw [h]
  simp
theorem grpsGo_ok {u : UntN} (hw : writB u = true) : ∀ (f i : Nat), ∀ g ∈ grpsGo u.code (firstsL u.code) f i, GrpOk u g
  | 0, _, g, h => by simp [grpsGo] at h
  | f + 1, i, g, h => by
    unfold grpsGo at h
    split at h
    · rename_i hi
      rcases List.mem_cons.1 h with rfl | h
      · have hfl : (firstsL u.code).length = u.code.length := fsTo_length u.code u.code.length
        have hlt : grpEnd (firstsL u.code) i < u.code.length := by rw [← hfl]; exact grpEnd_lt (by rw [hfl]; exact hi)
        refine ⟨hlt, grpEnd_ge _ _, fun s hs => ?_, rfl, fun k h1 h2 s hs => ?_, rfl⟩
        · obtain ⟨y, hy, hs2⟩ := grpReads_mem.1 hs
          obtain ⟨k, hk, rfl⟩ := List.getElem_of_mem (List.mem_of_mem_drop (List.mem_of_mem_take hy))
          exact writ_readIn hw hk s hs2
        · have h1' : i ≤ k := h1
          have h2' : k ≤ grpEnd (firstsL u.code) i := h2
          have hk : k < u.code.length := by omega
          rw [getD_in hk] at hs
          refine grpReads_mem.2 ⟨u.code[k], ?_, hs⟩
          rw [List.mem_iff_getElem]
          refine ⟨k - i, by rw [List.length_take, List.length_drop]; omega, ?_⟩
          rw [List.getElem_take, List.getElem_drop]
          congr 1
          omega
      · exact grpsGo_ok hw f _ g h
    · simp at h
theorem groups_ok {u : UntN} (hw : writB u = true) {g : GrpN} (hg : g ∈ groupsL u) : GrpOk u g := grpsGo_ok hw _ _ g hg
end Go.Proofs.YtgalekifgnecjaaGreat
