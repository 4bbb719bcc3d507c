/- The reference's matrix in memory. -/
import Derived.Test.YtnjbahiaelehkaaD1
import Derived.Test.YtnjbahiaelehkaaA18
import Derived.Test.YtnjbahiaelehkaaC4
import Derived.Deep.AppendLies
import Derived.StillTailTactics
import Derived.WalkSmall
namespace Go.Proofs.Ytnjbahiaelehkaa
open Go.RowKit

/-- Block r holds numbers, from its beginning on. -/
def RB (w : World) (r N : Nat) (X : Nat → Int) : Prop := ∃ C, w.heap[r]? = some (.cells C 3 (0, 0)) ∧ ∀ k, k < N → C[k]? = some (.int .i64 (X k))
theorem RB.cell {w : World} {r N : Nat} {X : Nat → Int} (h : RB w r N X) {k : Nat} (hk : k < N) : w.cell? ⟨r, k, none⟩ = some (.int .i64 (X k)) := by
  obtain ⟨C, h1, h3⟩ := h
  rw [cell_of_row _ _ _ _ _ _ h1]
  exact h3 k hk
theorem RB.lt {w : World} {r N : Nat} {X : Nat → Int} (h : RB w r N X) : r < w.heap.size := by
  obtain ⟨C, h1, _⟩ := h
  exact lt_of_heap h1
theorem RB.frozen {w : World} {r N : Nat} {X : Nat → Int} (h : RB w r N X) (k : Nat) : w.frozen? ⟨r, k, none⟩ = false := by
  obtain ⟨C, h1, _⟩ := h
  simp [World.frozen?, h1]
theorem RB.keep {w w' : World} {r N : Nat} {X : Nat → Int} (h : RB w r N X) (e : w'.heap[r]? = w.heap[r]?) : RB w' r N X := by
  obtain ⟨C, h1, h2⟩ := h
  exact ⟨C, by rw [e]; exact h1, h2⟩
theorem RB.below {w w' : World} {r N : Nat} {X : Nat → Int} (h : RB w r N X) (hb : Below w.heap.size w w') : RB w' r N X := h.keep (hb.block r h.lt)
theorem RB.set {w : World} {r N : Nat} {X : Nat → Int} (h : RB w r N X) {k : Nat} (hk : k < N) (v : Int) : RB (w.setCell ⟨r, k, none⟩ (.int .i64 v)) r N (fun j => if j = k then v else X j) := by
  obtain ⟨C, h1, h3⟩ := h
  have hsz : k < C.size := by
    have := h3 k hk
    exact (Array.getElem?_eq_some_iff.1 this).1
  refine ⟨_, heap_setCell_same w r k C 3 _ h1, fun j hj => ?_⟩
  rw [Array.getElem?_setIfInBounds]
  by_cases e : k = j
  · subst e
    rw [if_pos rfl, if_pos hsz]
    simp
  · rw [if_neg e, h3 j hj]
    simp [Ne.symm e]
theorem RB.of_own {w : World} {base : Nat} {v : Value} {l : List Int} {X : Nat → Int} (h : OwnI w base v l) (hne : 0 < l.length) (hX : ∀ k (hk : k < l.length), l[k] = X k) : ∃ g cap, v = .slice (some ⟨g, 0, none⟩) l.length cap ∧ base ≤ g ∧ RB w g l.length X := by
  obtain ⟨_, h⟩ := h
  rcases h with ⟨_, h0⟩ | ⟨g, cap, cur, rfl, hg, hh, h1, h2, h3, h4⟩
  · omega
  · refine ⟨g, cap, rfl, hg, cur, hh, fun k hk => ?_⟩
    have e : (cur.toList.take (l.length * 1))[k]? = (l.map (Value.int .i64))[k]? := by rw [h4]
    rw [List.getElem?_take, if_pos (by omega), List.getElem?_map, List.getElem?_eq_getElem hk] at e
    rw [← hX k hk]
    simpa using e

/-- The rows that begin has made. -/
def RowsAt (w : World) (base N i : Nat) (v : Value) (X : Nat → Nat → Int) : Prop :=
  ∃ Rs : List (Nat × Nat), Rs.length = i ∧ w.ownsRow base 46 1 v i (Rs.map fun p => .slice (some ⟨p.1, 0, none⟩) N p.2) ∧
    (∀ k (h : k < Rs.length), base ≤ Rs[k].1 ∧ RB w Rs[k].1 N (X k) ∧ v.ownBlock ≠ some Rs[k].1) ∧ ∀ k j (h : k < Rs.length) (h' : j < Rs.length), Rs[k].1 = Rs[j].1 → k = j

theorem own_below {w w' : World} {base : Nat} {e : TypeId} {size : Nat} {v : Value} {n : Nat} {xs : List Value} (h : w.ownsRow base e size v n xs) (hb : Below w.heap.size w w') : w'.ownsRow base e size v n xs := by
  refine ⟨h.1, ?_⟩
  rcases h.2 with ⟨rfl, h0⟩ | ⟨g, cap, cur, rfl, hg, hh, h1⟩
  · exact .inl ⟨rfl, h0⟩
  · exact .inr ⟨g, cap, cur, rfl, hg, by rw [hb.block g (lt_of_heap hh)]; exact hh, h1⟩
theorem RowsAt.nil (w : World) (base N : Nat) (X : Nat → Nat → Int) : RowsAt w base N 0 (.slice none 0 0) X :=
  ⟨[], rfl, ⟨rfl, .inl ⟨rfl, rfl⟩⟩, fun k h => absurd h (Nat.not_lt_zero k), fun k _ h => absurd h (Nat.not_lt_zero k)⟩
theorem RowsAt.below {w w' : World} {base N i : Nat} {v : Value} {X : Nat → Nat → Int} (h : RowsAt w base N i v X) (hb : Below w.heap.size w w') : RowsAt w' base N i v X := by
  obtain ⟨Rs, h1, h2, h3, h4⟩ := h
  exact ⟨Rs, h1, own_below h2 hb, fun k hk => ⟨(h3 k hk).1, (h3 k hk).2.1.below hb, (h3 k hk).2.2⟩, h4⟩
theorem RowsAt.own {w : World} {base N i : Nat} {v : Value} {X : Nat → Nat → Int} (h : RowsAt w base N i v X) : ∀ k, v.ownBlock = some k → base ≤ k ∧ k < w.heap.size := by
  obtain ⟨Rs, h1, h2, h3, h4⟩ := h
  intro k hk
  refine ⟨own_ge h2 k hk, ?_⟩
  rcases h2.2 with ⟨rfl, _⟩ | ⟨g, cap, cur, rfl, hg, hh, _⟩
  · cases hk
  · have : g = k := by simpa [Value.ownBlock] using hk
    subst this
    exact lt_of_heap hh
theorem info46 : (Try.prog.info? 46).map (fun i => (i.zero, i.size, i.bytes)) = some (some (.slice none 0 0), 1, 24) := by kernel_rfl

/-- One row more. wo: where the row was begun; w: ahead of the append (a new block bears the slice); w': behind it. -/
theorem RowsAt.more {wo w w' : World} {base N i r cr : Nat} {v v' : Value} {X : Nat → Nat → Int} {xs : List Value} {o : Obj} (h : RowsAt wo base N i v X) (hw : Below wo.heap.size wo w) (hbw : base ≤ wo.heap.size) (hr : wo.heap.size ≤ r) (hrow : RB w r N (X i))
    (hx : (w.alloc o).ownsRow base 46 1 v i xs) (hx' : w'.ownsRow base 46 1 v' (i + 1) (xs ++ [.slice (some ⟨r, 0, none⟩) N cr])) (hg : (w.alloc o).grownBy w' v.ownBlock) (hat : v.ownBlock = v'.ownBlock ∨ v'.ownBlock = some (w.heap.size + 1)) : RowsAt w' base N (i + 1) v' X := by
  have hown := h.own
  obtain ⟨Rs, h1, h2, h3, h4⟩ := h
  have hxs : xs = Rs.map fun p => .slice (some ⟨p.1, 0, none⟩) N p.2 := by
    have h2' := own_below (own_below h2 hw |> fun h => h) (bnew w o) |> fun h => h
    rcases hx.2 with ⟨rfl, e0⟩ | ⟨g, cap, cur, rfl, _, hh, _, _, _, e1⟩
    · have l1 := hx.1
      have l2 := h2.1
      rw [e0] at l1 l2
      rw [List.length_eq_zero_iff.1 (by omega : xs.length = 0), List.length_eq_zero_iff.1 (by omega : (Rs.map fun p => Value.slice (some ⟨p.1, 0, none⟩) N p.2).length = 0)]
    · rcases h2'.2 with ⟨e, _⟩ | ⟨g', cap', cur', e, _, hh', _, _, _, e1'⟩
      · cases e
      · cases e
        rw [hh] at hh'
        cases hh'
        rw [← e1, ← e1']
  subst hxs
  have hwo := hw.size
  have hlt : ∀ k (hk : k < Rs.length), Rs[k].1 < wo.heap.size := fun k hk => (h3 k hk).2.1.lt
  have hsz : (w.alloc o).heap.size = w.heap.size + 1 := by simp
  have hkeep : ∀ b, b < w.heap.size → v.ownBlock ≠ some b → w'.heap[b]? = w.heap[b]? := fun b hb hne => by
    rw [hg.block b (by rw [hsz]; omega) (fun e => hne e.symm)]
    exact heapo _ _ _ hb
  refine ⟨Rs ++ [(r, cr)], by simp [h1], by simpa using hx', ?_, ?_⟩
  · intro k hk
    rw [List.length_append, List.length_singleton] at hk
    by_cases hki : k < Rs.length
    · rw [List.getElem_append_left hki]
      obtain ⟨a1, a2, a3⟩ := h3 k hki
      refine ⟨a1, (a2.below hw).keep (hkeep _ (by have := hlt k hki; omega) a3), ?_⟩
      rcases hat with e | e
      · rw [← e]; exact a3
      · rw [e]
        intro e2
        have := hlt k hki
        have : w.heap.size + 1 = Rs[k].1 := by simpa using e2
        omega
    · have hke : k = Rs.length := by omega
      subst hke
      rw [List.getElem_append_right (Nat.le_refl _)]
      simp only [Nat.sub_self, List.getElem_cons_zero]
      have hrl := hrow.lt
      have hne : v.ownBlock ≠ some r := fun e => by have := (hown r e).2; omega
      refine ⟨by omega, ?_, ?_⟩
      · rw [h1]
        exact hrow.keep (hkeep _ hrl hne)
      · rcases hat with e | e
        · rw [← e]; exact hne
        · rw [e]
          intro e2
          have : w.heap.size + 1 = r := by simpa using e2
          omega
  · intro k j hk hj e
    rw [List.length_append, List.length_singleton] at hk hj
    by_cases hki : k < Rs.length <;> by_cases hji : j < Rs.length
    · rw [List.getElem_append_left hki, List.getElem_append_left hji] at e
      exact h4 k j hki hji e
    · rw [List.getElem_append_left hki, List.getElem_append_right (by omega)] at e
      have := hlt k hki
      simp at e
      omega
    · rw [List.getElem_append_right (by omega), List.getElem_append_left hji] at e
      have := hlt j hji
      simp at e
      omega
    · omega

/-- The matrix in memory. -/
structure MX (w : World) (base g N : Nat) (R : Nat → Nat) (m : Nat → Nat → Int) : Prop where
  hd : ∀ i, i < N → ∃ cap, w.cell? ⟨g, i, none⟩ = some (.slice (some ⟨R i, 0, none⟩) N cap)
  row : ∀ i, i < N → RB w (R i) N (m i)
  ge : ∀ i, i < N → base ≤ R i ∧ R i ≠ g
  inj : ∀ i j, i < N → j < N → R i = R j → i = j
  bg : base ≤ g ∧ g < w.heap.size
theorem RowsAt.mx {w : World} {base N : Nat} {v : Value} {X : Nat → Nat → Int} (h : RowsAt w base N N v X) (hN : 0 < N) : ∃ g cap R, v = .slice (some ⟨g, 0, none⟩) N cap ∧ MX w base g N R X := by
  obtain ⟨Rs, h1, h2, h3, h4⟩ := h
  rcases h2.2 with ⟨_, e0⟩ | ⟨g, cap, cur, rfl, hg, hh, _, _, _, e1⟩
  · omega
  · refine ⟨g, cap, fun i => (Rs.getD i (0, 0)).1, rfl, ?_⟩
    have hR : ∀ i (hi : i < Rs.length), Rs.getD i (0, 0) = Rs[i] := fun i hi => by
      rw [List.getD_eq_getElem?_getD, List.getElem?_eq_getElem hi]; rfl
    refine ⟨fun i hi => ?_, fun i hi => ?_, fun i hi => ?_, fun i j hi hj e => ?_, hg, lt_of_heap hh⟩
    · have hil : i < Rs.length := by omega
      rw [hR i hil]
      refine ⟨Rs[i].2, ?_⟩
      rw [cell_of_row _ _ _ _ _ _ hh]
      have e : (cur.toList.take (N * 1))[i]? = (Rs.map fun p => Value.slice (some ⟨p.1, 0, none⟩) N p.2)[i]? := by rw [e1]
      rw [List.getElem?_take, if_pos (by omega), List.getElem?_map, List.getElem?_eq_getElem hil] at e
      simpa using e
    · have hil : i < Rs.length := by omega
      rw [hR i hil]
      exact (h3 i hil).2.1
    · have hil : i < Rs.length := by omega
      rw [hR i hil]
      refine ⟨(h3 i hil).1, fun e => (h3 i hil).2.2 ?_⟩
      show some g = some Rs[i].1
      rw [e]
    · have hil : i < Rs.length := by omega
      have hjl : j < Rs.length := by omega
      rw [hR i hil, hR j hjl] at e
      exact h4 i j hil hjl e
section
variable {w : World} {base g N : Nat} {R : Nat → Nat} {m : Nat → Nat → Int}
theorem MX.below {w' : World} (h : MX w base g N R m) (hb : Below w.heap.size w w') : MX w' base g N R m :=
  ⟨fun i hi => by obtain ⟨c, e⟩ := h.hd i hi; exact ⟨c, cell_later hb e⟩, fun i hi => (h.row i hi).below hb, h.ge, h.inj, h.bg.1, Nat.lt_of_lt_of_le h.bg.2 hb.size⟩
theorem MX.drew (h : MX w base g N R m) : MX w.drew base g N R m := h.below (bdrew _)
theorem MX.cell (h : MX w base g N R m) {i j : Nat} (hi : i < N) (hj : j < N) : w.cell? ⟨R i, j, none⟩ = some (.int .i64 (m i j)) := (h.row i hi).cell hj
theorem MX.set (h : MX w base g N R m) {i j : Nat} (hi : i < N) (hj : j < N) (v : Int) : MX (w.setCell ⟨R i, j, none⟩ (.int .i64 v)) base g N R (setM m i j v) := by
  have hoth : ∀ b, b ≠ R i → (w.setCell ⟨R i, j, none⟩ (.int .i64 v)).heap[b]? = w.heap[b]? := fun b hb => Below.heap_setCell _ _ _ _ hb
  refine ⟨fun k hk => ?_, fun k hk => ?_, h.ge, h.inj, h.bg.1, by have := h.bg.2; simp [World.setCell]; exact this⟩
  · obtain ⟨c, e⟩ := h.hd k hk
    exact ⟨c, (World.cell?_of_block (hoth g (Ne.symm (h.ge i hi).2))).trans e⟩
  · by_cases e : k = i
    · subst e
      have := (h.row k hk).set hj v
      have e2 : setM m k j v k = fun b => if b = j then v else m k b := by
        funext b
        unfold setM
        simp
      rw [e2]
      exact this
    · have e2 : setM m i j v k = m k := by
        funext b
        exact setM_ne (by omega)
      rw [e2]
      exact (h.row k hk).keep (hoth _ (fun e3 => e (h.inj k i hk hi e3)))
end
end Go.Proofs.Ytnjbahiaelehkaa
