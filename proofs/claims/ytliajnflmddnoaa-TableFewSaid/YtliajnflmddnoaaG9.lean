/- Pairs of numbers in memory (Owned, Berth): read off a slice, in slices of the call's own, in a block that is written, appended. -/
import Derived.Test.YtliajnflmddnoaaG8
import Derived.ArgAppend
namespace Go.Proofs.Ytliajnflmddnoaa
open Go.RowKit

def c2 (p : Int × Int) : List Value := [.int .i64 p.1, .int .i64 p.2]
theorem c2_at (l : List (Int × Int)) (i : Nat) (h : i < l.length) (k : Nat) (hk : k < 2) : (l.flatMap c2)[i * 2 + k]? = (c2 l[i])[k]? := by
  induction l generalizing i with
  | nil => exact absurd h (Nat.not_lt_zero _)
  | cons x l ih =>
    rw [List.flatMap_cons, List.getElem?_append]
    have h5 : (c2 x).length = 2 := rfl
    rw [h5]
    cases i with
    | zero =>
      rw [if_pos (by omega), Nat.zero_mul, Nat.zero_add]
      rfl
    | succ i =>
      rw [if_neg (by omega), show (i + 1) * 2 + k - 2 = i * 2 + k by omega]
      exact ih i (by simpa using h)
theorem c2_length (l : List (Int × Int)) : (l.flatMap c2).length = l.length * 2 := by
  induction l with
  | nil => rfl
  | cons x l ih =>
    rw [List.flatMap_cons, List.length_append, ih, List.length_cons]
    have h5 : (c2 x).length = 2 := rfl
    omega
theorem c2_one (l : List (Int × Int)) : ∀ u ∈ l.flatMap c2, u.oneCell' = true := by
  intro u hu
  rw [List.mem_flatMap] at hu
  obtain ⟨x, _, hx⟩ := hu
  simp [c2] at hx
  rcases hx with rfl | rfl <;> rfl
/-- A pair of numbers at a place. -/
def PMat (w : World) (b o : Nat) (p : Int × Int) : Prop := w.cell? ⟨b, o, none⟩ = some (.int .i64 p.1) ∧ w.cell? ⟨b, o + 1, none⟩ = some (.int .i64 p.2)
/-- A list of pairs, read off a slice. -/
def RdP (w : World) (a : Option Addr) (l : List (Int × Int)) : Prop :=
  ∀ i (h : i < l.length), ∃ b off, a = some ⟨b, off, none⟩ ∧ b < w.heap.size ∧ PMat w b (off + i * 2) l[i]
theorem RdP.below {w w' : World} {a : Option Addr} {l : List (Int × Int)} (h : RdP w a l) (hb : Below w.heap.size w w') : RdP w' a l := by
  intro i hi
  obtain ⟨b, off, ha, hlt, h1, h2⟩ := h i hi
  exact ⟨b, off, ha, Nat.lt_of_lt_of_le hlt hb.size, cell_later hb h1, cell_later hb h2⟩
theorem RdP.nil (w : World) (a : Option Addr) : RdP w a [] := fun _ hi => absurd hi (Nat.not_lt_zero _)
theorem RdP.at {w : World} {a : Option Addr} {l : List (Int × Int)} (h : RdP w a l) {i : Nat} (hi : i < l.length) : ∃ b off, a = some ⟨b, off, none⟩ ∧ b < w.heap.size ∧ w.cell? ⟨b, off + i * 2, none⟩ = some (.int .i64 (l.getD i (-1, 0)).1) ∧ w.cell? ⟨b, off + i * 2 + 1, none⟩ = some (.int .i64 (l.getD i (-1, 0)).2) := by
  obtain ⟨b, off, h1, h2, h3⟩ := h i hi
  exact ⟨b, off, h1, h2, by rw [getD_in hi]; exact h3.1, by rw [getD_in hi]; exact h3.2⟩
theorem RdP.cells {w : World} {b off : Nat} {l : List (Int × Int)} (h : RdP w (some ⟨b, off, none⟩) l) : ∀ j u, (l.flatMap c2)[j]? = some u → w.cell? ((⟨b, off, none⟩ : Addr).add j) = some u := by
  intro j u hu
  have hj : j < l.length * 2 := by
    have := (List.getElem?_eq_some_iff.1 hu).1
    rw [c2_length] at this
    exact this
  have hi : j / 2 < l.length := by omega
  obtain ⟨b', off', e, hlt, h0, h1⟩ := h (j / 2) hi
  simp only [Option.some.injEq, Addr.mk.injEq, and_true] at e
  obtain ⟨rfl, rfl⟩ := e
  have hk : j % 2 < 2 := Nat.mod_lt _ (by decide)
  have ej : j = j / 2 * 2 + j % 2 := by omega
  have hc := c2_at l (j / 2) hi (j % 2) hk
  rw [← ej, hu] at hc
  have ea : ((⟨b, off, none⟩ : Addr).add j) = ⟨b, off + j / 2 * 2 + j % 2, none⟩ := by
    unfold Addr.add
    by_cases h0 : j = 0
    · subst h0; simp
    · simp [h0]; omega
  rw [ea]
  generalize j % 2 = k at *
  match k, hk with
  | 0, _ => simp [c2] at hc; rw [hc]; exact h0
  | 1, _ => simp [c2] at hc; rw [hc]; exact h1

/-- ts is a slice of T, and T is a struct of two numbers. -/
def PT (ts T : TypeId) : Prop := Try.prog.underlying ts = some (.slice T) ∧ (Try.prog.info? T).map (fun i => (i.zero, i.size, i.bytes)) = some (some (.agg #[.int .i64 0, .int .i64 0]), 2, 16)
theorem pt42 : PT 42 99 := ⟨Try.underlying42, by kernel_rfl⟩
theorem pt95 : PT 95 97 := ⟨Try.underlying95, by kernel_rfl⟩

/-- A slice of pairs of the call's own. -/
def OwnP (T : TypeId) (w : World) (base : Nat) (v : Value) (l : List (Int × Int)) : Prop := w.ownsRow base T 2 v l.length (l.flatMap c2)
theorem OwnP.nil (T : TypeId) (w : World) (base : Nat) : OwnP T w base (.slice none 0 0) [] := World.ownsRow_nil _ _ _ _
theorem OwnP.rd {T : TypeId} {w : World} {base : Nat} {v : Value} {l : List (Int × Int)} (h : OwnP T w base v l) : ∃ a cap, v = .slice a l.length cap ∧ RdP w a l := by
  obtain ⟨_, h⟩ := h
  rcases h with ⟨rfl, h0⟩ | ⟨g, cap, cur, rfl, hg, hh, h1, h2, h3, h4⟩
  · exact ⟨none, 0, by rw [h0], fun i hi => by omega⟩
  · refine ⟨_, cap, rfl, fun i hi => ⟨g, 0, rfl, lt_of_heap hh, ?_⟩⟩
    have key : ∀ k, k < 2 → w.cell? ⟨g, 0 + i * 2 + k, none⟩ = (c2 l[i])[k]? := by
      intro k hk
      rw [cell_of_row _ _ _ _ _ _ hh, Nat.zero_add]
      have e : (cur.toList.take (l.length * 2))[i * 2 + k]? = (l.flatMap c2)[i * 2 + k]? := by rw [h4]
      rw [List.getElem?_take, if_pos (by omega), c2_at l i hi k hk] at e
      rw [← e]
      simp
    exact ⟨key 0 (by decide), key 1 (by decide)⟩
theorem OwnP.later {T : TypeId} {w w' : World} {base : Nat} {v : Value} {l : List (Int × Int)} (h : OwnP T w base v l) (hb : Below w.heap.size w w') : OwnP T w' base v l := own_below h hb

theorem run_append_pairs {ts T : TypeId} (pt : PT ts T) (w : World) (base : Nat) (ty : TypeId) (v : Value) (l0 l : List (Int × Int)) (hown : OwnP T w base v l0) (a : Option Addr) (c : Nat) (hl : RdP w a l) (hs : l0.length + l.length ≤ 1000000) (hb : base ≤ w.heap.size) :
    ∃ v' w', (Builtin.append_ #[ts, ts] ty #[v, .slice a l.length c]).run Try.prog w = .ok v' w' ∧ OwnP T w' base v' (l0 ++ l) ∧ w.grownBy w' v.ownBlock ∧ (v'.ownBlock = v.ownBlock ∨ v'.ownBlock = some w.heap.size) := by
  obtain ⟨i4, hj4, hy0, hy1, hy2⟩ := info_parts pt.2
  cases a with
  | none =>
    have hl0 : l = [] := by
      cases l with
      | nil => rfl
      | cons x l =>
        obtain ⟨b, off, e, _⟩ := hl 0 (Nat.succ_pos _)
        cases e
    subst hl0
    refine ⟨v, w, ?_, by rw [List.append_nil]; exact hown, ⟨rfl, rfl, rfl, Nat.le_refl _, fun _ _ _ => rfl⟩, .inl rfl⟩
    rcases hown.2 with ⟨rfl, h0⟩ | ⟨g, cap, cur, rfl, _, _, hnc, _⟩
    · simp [Builtin.append_, run_underlying pt.1, sizeOf, typeInfo, hj4, Builtin.lenOf, Builtin.firstCells]
    · simp [Builtin.append_, run_underlying pt.1, sizeOf, typeInfo, hj4, Builtin.lenOf, Builtin.firstCells, hnc, storeCells]
  | some ad =>
    have hcells : ∀ j u, (l.flatMap c2)[j]? = some u → w.cell? (ad.add j) = some u := by
      cases l with
      | nil => intro j u hu; simp at hu
      | cons x l =>
        obtain ⟨b, off, e, _⟩ := hl 0 (Nat.succ_pos _)
        injection e with e
        subst e
        exact hl.cells
    obtain ⟨v', w', h1, h2, h3, _, h5⟩ := run_append_own_at (P := Try.prog) w base ts ty T i4 _ 2 16 pt.1 hj4 hy0 hy1 hy2 rfl (by decide) v l0.length (l0.flatMap c2) hown ad l.length c (l.flatMap c2) (c2_length l) hcells (c2_one l) (by unfold maxLen; omega) (by omega) hb
    refine ⟨v', w', h1, ?_, h3, h5⟩
    unfold OwnP
    rw [List.length_append, List.flatMap_append]
    exact h2
theorem wpList_append_pairs {ts T : TypeId} (pt : PT ts T) {ops : Array Oper} {rest : List Oper} {o : Oper} {a : Act} {Q : Exit → Act → World → Prop} (w : World) (hgd : o.guard = none) (s x : Operand)
    (ho : o.op = .call { callee := .builtin .append, args := #[s, x], argTypes := #[ts, ts] }) (base : Nat) (v : Value) (l0 l : List (Int × Int)) (hsv : a.eval s = v) (hown : OwnP T w base v l0) (A : Option Addr) (c : Nat) (hx : a.eval x = .slice A l.length c) (hl : RdP w A l) (hs : l0.length + l.length ≤ 1000000) (hb : base ≤ w.heap.size)
    (h : ∀ v' w', OwnP T w' base v' (l0 ++ l) → w.grownBy w' v.ownBlock → (v'.ownBlock = v.ownBlock ∨ v'.ownBlock = some w.heap.size) → wpList Try.prog ops Q rest (a.put o.dst v') w') : wpList Try.prog ops Q (o :: rest) a w := by
  refine wpList_plain hgd fun K hK => ?_
  obtain ⟨v', w', hrun, h2, h3, h4⟩ := run_append_pairs pt w base o.type v l0 l hown A c hl hs hb
  unfold Oper.wp execOp
  simp only [ho, resolve, invoke, builtin, Sem.run_bind, Sem.run_pure, Result.andThen_ok, List.map_toArray, List.map_cons, List.map_nil, hsv, hx, hrun]
  exact hK _ _ (h v' w' h2 h3 h4)
theorem OwnP.none {T : TypeId} {w : World} {base g : Nat} (hb : base ≤ g) (h : w.heap[g]? = some (.cells #[] T (0, 0))) : OwnP T w base (.slice (some ⟨g, 0, none⟩) 0 0) [] := ⟨rfl, .inr ⟨g, 0, #[], rfl, hb, h, Nat.le_refl _, Nat.zero_le _, rfl, rfl⟩⟩
theorem rdp_one (w : World) (x y : Int) (T : TypeId) : RdP (w.alloc (.cells #[.int .i64 x, .int .i64 y] T)) (some ⟨w.heap.size, 0, none⟩) [(x, y)] := by
  intro i hi
  obtain rfl : i = 0 := by simp at hi; exact hi
  obtain ⟨h1, h2, _⟩ := box2 (heapn w (.cells #[.int .i64 x, .int .i64 y] T) _ rfl)
  exact ⟨_, _, rfl, lt_alloc _ _, h1, h2⟩

/-- A slice of pairs: one that came in, full, or one of the call's own. -/
def PadP (T : TypeId) (w : World) (base : Nat) (v : Value) (l : List (Int × Int)) : Prop := (∃ a, v = .slice a l.length l.length ∧ RdP w a l) ∨ OwnP T w base v l
theorem PadP.rd {T : TypeId} {w : World} {base : Nat} {v : Value} {l : List (Int × Int)} (h : PadP T w base v l) : ∃ a cap, v = .slice a l.length cap ∧ RdP w a l := by
  rcases h with ⟨a, rfl, h⟩ | h
  · exact ⟨a, _, rfl, h⟩
  · exact h.rd
theorem PadP.later {T : TypeId} {w w' : World} {base : Nat} {v : Value} {l : List (Int × Int)} (h : PadP T w base v l) (hb : Below w.heap.size w w') : PadP T w' base v l := by
  rcases h with ⟨a, rfl, h⟩ | h
  · exact .inl ⟨a, rfl, h.below hb⟩
  · exact .inr (h.later hb)
theorem wpList_append_pad {ts T : TypeId} (pt : PT ts T) {ops : Array Oper} {rest : List Oper} {o : Oper} {a : Act} {Q : Exit → Act → World → Prop} (w : World) (hgd : o.guard = none) (s x : Operand)
    (ho : o.op = .call { callee := .builtin .append, args := #[s, x], argTypes := #[ts, ts] }) (base : Nat) (v : Value) (l0 : List (Int × Int)) (p : Int × Int) (hsv : a.eval s = v) (hown : PadP T w base v l0) (A : Addr) (c : Nat) (hx : a.eval x = .slice (some A) 1 c) (hl : RdP w (some A) [p]) (hs : l0.length ≤ 999999) (hb : base ≤ w.heap.size)
    (h : ∀ v' w', OwnP T w' base v' (l0 ++ [p]) → Below base w w' → wpList Try.prog ops Q rest (a.put o.dst v') w') : wpList Try.prog ops Q (o :: rest) a w := by
  rcases hown with ⟨ao, rfl, hr⟩ | hown
  · obtain ⟨i4, hj4, hy0, hy1, hy2⟩ := info_parts pt.2
    obtain ⟨b, off, e, _⟩ := hl 0 (Nat.succ_pos _)
    cases e
    refine wpList_append_grows w hgd s x ts ho T i4 _ 2 16 pt.1 hj4 hy0 hy1 hy2 rfl (by decide) ao l0.length l0.length (l0.flatMap c2) hsv ?_ (c2_length _) ?_ _ 1 c ([p].flatMap c2) hx rfl hl.cells (c2_one _) (by omega) (by unfold maxLen; omega) (by omega) ?_
    · intro e
      subst e
      cases l0 with
      | nil => exact ⟨rfl, rfl⟩
      | cons x l =>
        obtain ⟨b, off, e, _⟩ := hr 0 (Nat.succ_pos _)
        cases e
    · intro bb e
      subst e
      cases l0 with
      | nil => intro j u hu; simp at hu
      | cons x l =>
        obtain ⟨b', off', e, _⟩ := hr 0 (Nat.succ_pos _)
        cases e
        exact hr.cells
    · intro v' w' h1 h2
      refine h v' w' ?_ (Below.grown (Below.refl _ _) h2 hb (fun k hk => by cases hk))
      unfold OwnP
      rw [List.length_append, List.flatMap_append]
      exact own_base h1 hb
  · refine wpList_append_pairs pt w hgd s x ho base v l0 [p] hsv hown (some A) c hx hl (by simp; omega) hb ?_
    intro v' w' h1 h2 _
    exact h v' w' h1 (Below.grown (Below.refl _ _) h2 hb (own_ge hown))

/-- Block g holds the pairs L from its head on. -/
def BP (T : TypeId) (w : World) (g : Nat) (L : List (Int × Int)) : Prop := ∃ cur, w.heap[g]? = some (.cells cur T (0, 0)) ∧ ∀ i (h : i < L.length), ∀ j, j < 2 → cur[i * 2 + j]? = (c2 L[i])[j]?
theorem BP.of_own {T : TypeId} {w : World} {base : Nat} {v : Value} {L : List (Int × Int)} (h : OwnP T w base v L) (hne : L ≠ []) : ∃ g cap, v = .slice (some ⟨g, 0, none⟩) L.length cap ∧ base ≤ g ∧ BP T w g L := by
  rcases h.2 with ⟨_, h0⟩ | ⟨g, cap, cur, rfl, hg, hh, h1, h2, h3, h4⟩
  · exact absurd (List.length_eq_zero_iff.1 h0) hne
  · refine ⟨g, cap, rfl, hg, cur, hh, fun i hi j hj => ?_⟩
    have hlt : i * 2 + j < L.length * 2 := by omega
    rw [← c2_at L i hi j hj, ← h4, List.getElem?_take, if_pos hlt, Array.getElem?_toList]
theorem BP.at {T : TypeId} {w : World} {g : Nat} {L : List (Int × Int)} (h : BP T w g L) {i : Nat} (hi : i < L.length) : PMat w g (i * 2) L[i] := by
  obtain ⟨cur, hh, hc⟩ := h
  have key : ∀ j, j < 2 → w.cell? ⟨g, i * 2 + j, none⟩ = (c2 L[i])[j]? := fun j hj => by
    rw [cell_of_row _ _ _ _ _ _ hh]
    exact hc i hi j hj
  exact ⟨key 0 (by decide), key 1 (by decide)⟩
theorem BP.frozen {T : TypeId} {w : World} {g : Nat} {L : List (Int × Int)} (h : BP T w g L) (o : Nat) : w.frozen? ⟨g, o, none⟩ = false := by
  obtain ⟨cur, hh, _⟩ := h
  simp [World.frozen?, hh]
theorem BP.lt {T : TypeId} {w : World} {g : Nat} {L : List (Int × Int)} (h : BP T w g L) : g < w.heap.size := by
  obtain ⟨cur, hh, _⟩ := h
  exact lt_of_heap hh
theorem BP.rd {T : TypeId} {w : World} {g : Nat} {L : List (Int × Int)} (h : BP T w g L) : RdP w (some ⟨g, 0, none⟩) L := fun i hi => ⟨g, 0, rfl, h.lt, by rw [Nat.zero_add]; exact h.at hi⟩
theorem BP.below {T : TypeId} {w w' : World} {g : Nat} {L : List (Int × Int)} (h : BP T w g L) (hb : Below w.heap.size w w') : BP T w' g L := by
  obtain ⟨cur, hh, hc⟩ := h
  exact ⟨cur, keepBox hb hh, hc⟩
/-- A pair is written. -/
theorem BP.set {T : TypeId} {w : World} {g : Nat} {L : List (Int × Int)} (h : BP T w g L) {i : Nat} (hi : i < L.length) (x y : Int) :
    BP T ((w.setCell ⟨g, i * 2, none⟩ (.int .i64 x)).setCell ⟨g, i * 2 + 1, none⟩ (.int .i64 y)) g (L.set i (x, y)) := by
  obtain ⟨cur, hh, hc⟩ := h
  have hsz : ∀ j, j < 2 → i * 2 + j < cur.size := fun j hj => by
    have := hc i hi j hj
    rcases Nat.lt_or_ge (i * 2 + j) cur.size with h | h
    · exact h
    · rw [Array.getElem?_eq_none h] at this
      match j, hj with
      | 0, _ => cases this
      | 1, _ => cases this
  refine ⟨_, heap_setCell_same _ _ _ _ _ _ (heap_setCell_same _ _ _ _ _ _ hh), fun k hk j hj => ?_⟩
  have hk' : k < L.length := by simpa using hk
  have h4 := hsz 1 (by decide)
  by_cases e : k = i
  · subst e
    rw [List.getElem_set, if_pos rfl]
    match j, hj with
    | 0, _ => simp [Array.getElem?_setIfInBounds, c2]; omega
    | 1, _ => simp [Array.getElem?_setIfInBounds, c2]; omega
  · rw [List.getElem_set, if_neg (fun h => e h.symm), ← hc k hk' j hj]
    rw [Array.getElem?_setIfInBounds, if_neg (by omega), Array.getElem?_setIfInBounds, if_neg (by omega)]
end Go.Proofs.Ytliajnflmddnoaa
