/- Slices whose elements have any number of cells: read off, of the call's own, appended, cloned. -/
import Derived.Test.YtgalekifgnecjaaGreatV1
import Derived.OwnWalkIn
namespace Go.Proofs.YtgalekifgnecjaaGreat
open Go.RowKit

/-- How an element lies in memory: k cells. -/
structure Enc (α : Type) where
  k : Nat
  c : α → List Value
  len : ∀ x, (c x).length = k
  one : ∀ x, ∀ u ∈ c x, u.oneCell' = true
  pos : 0 < k
section
variable {α : Type} {E : Enc α}
theorem Enc.at (E : Enc α) (l : List α) (i : Nat) (h : i < l.length) (j : Nat) (hj : j < E.k) : (l.flatMap E.c)[i * E.k + j]? = (E.c l[i])[j]? := by
  induction l generalizing i with
  | nil => exact absurd h (Nat.not_lt_zero _)
  | cons x l ih =>
    rw [List.flatMap_cons, List.getElem?_append, E.len x]
    cases i with
    | zero =>
      rw [if_pos (by omega), Nat.zero_mul, Nat.zero_add]
      rfl
    | succ i =>
      rw [if_neg (by rw [Nat.succ_mul]; omega), show (i + 1) * E.k + j - E.k = i * E.k + j by rw [Nat.succ_mul]; omega]
      exact ih i (by simpa using h)
theorem Enc.length (E : Enc α) (l : List α) : (l.flatMap E.c).length = l.length * E.k := by
  induction l with
  | nil => simp
  | cons x l ih =>
    rw [List.flatMap_cons, List.length_append, ih, List.length_cons, E.len x, Nat.succ_mul]
    omega
theorem Enc.ones (E : Enc α) (l : List α) : ∀ u ∈ l.flatMap E.c, u.oneCell' = true := by
  intro u hu
  rw [List.mem_flatMap] at hu
  obtain ⟨x, _, hx⟩ := hu
  exact E.one x u hx
/-- A list, read off a slice. -/
def RdX (E : Enc α) (w : World) (a : Option Addr) (l : List α) : Prop :=
  ∀ i (h : i < l.length), ∃ b off, a = some ⟨b, off, none⟩ ∧ b < w.heap.size ∧ ∀ j u, (E.c l[i])[j]? = some u → w.cell? ⟨b, off + i * E.k + j, none⟩ = some u
theorem RdX.below {w w' : World} {a : Option Addr} {l : List α} (h : RdX E w a l) (hb : Below w.heap.size w w') : RdX E w' a l := by
  intro i hi
  obtain ⟨b, off, ha, hlt, h1⟩ := h i hi
  exact ⟨b, off, ha, Nat.lt_of_lt_of_le hlt hb.size, fun j u hu => cell_later hb (h1 j u hu)⟩
theorem RdX.nil (w : World) (a : Option Addr) : RdX E w a [] := fun _ hi => absurd hi (Nat.not_lt_zero _)
theorem RdX.cells {w : World} {b off : Nat} {l : List α} (h : RdX E w (some ⟨b, off, none⟩) l) : ∀ j u, (l.flatMap E.c)[j]? = some u → w.cell? ((⟨b, off, none⟩ : Addr).add j) = some u := by
  intro j u hu
  have hj : j < l.length * E.k := by
    have := (List.getElem?_eq_some_iff.1 hu).1
    rwa [E.length] at this
  have hp := E.pos
  have hi : j / E.k < l.length := (Nat.div_lt_iff_lt_mul hp).2 hj
  obtain ⟨b', off', e, hlt, h0⟩ := h (j / E.k) hi
  simp only [Option.some.injEq, Addr.mk.injEq, and_true] at e
  obtain ⟨rfl, rfl⟩ := e
  have hk : j % E.k < E.k := Nat.mod_lt _ hp
  have ej : j / E.k * E.k + j % E.k = j := by rw [Nat.mul_comm]; exact Nat.div_add_mod j E.k
  have hc := E.at l (j / E.k) hi (j % E.k) hk
  rw [ej, hu] at hc
  have ea : ((⟨b, off, none⟩ : Addr).add j) = ⟨b, off + j / E.k * E.k + j % E.k, none⟩ := by
    rw [Nat.add_assoc, ej]
    unfold Addr.add
    by_cases h0 : j = 0
    · subst h0; simp
    · simp [h0]
  rw [ea]
  exact h0 _ _ hc.symm
theorem RdX.take {w : World} {a : Option Addr} {l : List α} (h : RdX E w a l) (n : Nat) : RdX E w a (l.take n) := by
  intro i hi
  have hi' : i < l.length := by rw [List.length_take] at hi; omega
  obtain ⟨b, off, ha, hlt, h1⟩ := h i hi'
  refine ⟨b, off, ha, hlt, ?_⟩
  rw [List.getElem_take]
  exact h1
/-- ts is a slice of T, and T has the cells of E. -/
structure SlT (E : Enc α) (ts T : TypeId) : Prop where
  u : Tryz.prog.underlying ts = some (.slice T)
  i : ∃ z bytes, (Tryz.prog.info? T).map (fun i => (i.zero, i.size, i.bytes)) = some (some z, E.k, bytes) ∧ z.cells.size = E.k ∧ bytes ≤ 64
/-- A slice of the call's own. -/
def OwnX (E : Enc α) (T : TypeId) (w : World) (base : Nat) (v : Value) (l : List α) : Prop := w.ownsRow base T E.k v l.length (l.flatMap E.c)
theorem OwnX.nil (T : TypeId) (w : World) (base : Nat) : OwnX E T w base (.slice none 0 0) [] := World.ownsRow_nil _ _ _ _
theorem OwnX.rdB {T : TypeId} {w : World} {base : Nat} {v : Value} {l : List α} (h : OwnX E T w base v l) : ∃ a cap, v = .slice a l.length cap ∧ RdX E w a l ∧ l.length ≤ cap ∧ (∀ b off, a = some ⟨b, off, none⟩ → base ≤ b ∧ v.ownBlock = some b) := by
  obtain ⟨_, h⟩ := h
  rcases h with ⟨rfl, h0⟩ | ⟨g, cap, cur, rfl, hg, hh, h1, h2, h3, h4⟩
  · exact ⟨none, 0, by rw [h0], fun i hi => by omega, by omega, fun b off e => by cases e⟩
  · refine ⟨_, cap, rfl, fun i hi => ⟨g, 0, rfl, lt_of_heap hh, fun j u hu => ?_⟩, h1, fun b off e => by cases e; exact ⟨hg, rfl⟩⟩
    have hj : j < E.k := by
      have := (List.getElem?_eq_some_iff.1 hu).1
      rwa [E.len] at this
    rw [cell_of_row _ _ _ _ _ _ hh, Nat.zero_add]
    have e : (cur.toList.take (l.length * E.k))[i * E.k + j]? = (l.flatMap E.c)[i * E.k + j]? := by rw [h4]
    have hlt : i * E.k + j < l.length * E.k := by
      have : (i + 1) * E.k ≤ l.length * E.k := Nat.mul_le_mul_right _ hi
      rw [Nat.succ_mul] at this
      omega
    rw [List.getElem?_take, if_pos hlt, E.at l i hi j hj, hu] at e
    simpa using e
theorem OwnX.rd {T : TypeId} {w : World} {base : Nat} {v : Value} {l : List α} (h : OwnX E T w base v l) : ∃ a cap, v = .slice a l.length cap ∧ RdX E w a l := by
  obtain ⟨a, cap, h1, h2, _⟩ := h.rdB
  exact ⟨a, cap, h1, h2⟩
theorem OwnX.later {T : TypeId} {w w' : World} {base : Nat} {v : Value} {l : List α} (h : OwnX E T w base v l) (hb : Below w.heap.size w w') : OwnX E T w' base v l := own_below h hb
theorem OwnX.mono {T : TypeId} {w : World} {base base' : Nat} {v : Value} {l : List α} (h : OwnX E T w base v l) (hb : base' ≤ base) : OwnX E T w base' v l := own_base h hb
theorem OwnX.none {T : TypeId} {w : World} {base g : Nat} (hb : base ≤ g) (h : w.heap[g]? = some (.cells #[] T (0, 0))) : OwnX E T w base (.slice (some ⟨g, 0, none⟩) 0 0) [] := ⟨by simp, .inr ⟨g, 0, #[], rfl, hb, h, Nat.le_refl _, Nat.zero_le _, by simp, by simp⟩⟩
theorem run_append_x {ts T : TypeId} (st : SlT E ts T) (w : World) (base : Nat) (ty : TypeId) (v : Value) (l0 l : List α) (hown : OwnX E T w base v l0) (a : Option Addr) (c : Nat) (hl : RdX E w a l) (hs : l0.length + l.length ≤ 1000000) (hb : base ≤ w.heap.size) :
    ∃ v' w', (Builtin.append_ #[ts, ts] ty #[v, .slice a l.length c]).run Tryz.prog w = .ok v' w' ∧ OwnX E T w' base v' (l0 ++ l) ∧ w.grownBy w' v.ownBlock ∧ (v'.ownBlock = v.ownBlock ∨ v'.ownBlock = some w.heap.size) := by
  obtain ⟨z, bytes, hi, hz, h64⟩ := st.i
  obtain ⟨i4, hj4, hy0, hy1, hy2⟩ := info_parts hi
  cases a with
  | none =>
    have hl0 : l = [] := by
      cases l with
      | nil => rfl
      | cons x l =>
        obtain ⟨b, off, e, _⟩ := hl 0 (Nat.succ_pos _)
        cases e
    subst hl0
    refine ⟨v, w, ?_, by rw [List.append_nil]; exact hown, ⟨rfl, rfl, rfl, Nat.le_refl _, fun _ _ _ => rfl⟩, .inl rfl⟩
    rcases hown.2 with ⟨rfl, h0⟩ | ⟨g, cap, cur, rfl, _, _, hnc, _⟩
    · simp [Builtin.append_, run_underlying st.u, sizeOf, typeInfo, hj4, Builtin.lenOf, Builtin.firstCells]
    · simp [Builtin.append_, run_underlying st.u, sizeOf, typeInfo, hj4, Builtin.lenOf, Builtin.firstCells, hnc, storeCells]
  | some ad =>
    have hcells : ∀ j u, (l.flatMap E.c)[j]? = some u → w.cell? (ad.add j) = some u := by
      cases l with
      | nil => intro j u hu; simp at hu
      | cons x l =>
        obtain ⟨b, off, e, _⟩ := hl 0 (Nat.succ_pos _)
        injection e with e
        subst e
        exact hl.cells
    have hbd : (l0.length + l.length) * bytes ≤ 140737488355328 := Nat.le_trans (Nat.mul_le_mul hs h64) (by omega)
    obtain ⟨v', w', h1, h2, h3, _, h5⟩ := run_append_own_at (P := Tryz.prog) w base ts ty T i4 _ E.k bytes st.u hj4 hy0 hy1 hy2 hz E.pos v l0.length (l0.flatMap E.c) hown ad l.length c (l.flatMap E.c) (E.length l) hcells (E.ones l) (by unfold maxLen; omega) hbd hb
    refine ⟨v', w', h1, ?_, h3, h5⟩
    unfold OwnX
    rw [List.length_append, List.flatMap_append]
    exact h2
theorem wpList_append_x {ts T : TypeId} (st : SlT E ts T) {ops : Array Oper} {rest : List Oper} {o : Oper} {a : Act} {Q : Exit → Act → World → Prop} (w : World) (hgd : o.guard = none) (s x : Operand)
    (ho : o.op = .call { callee := .builtin .append, args := #[s, x], argTypes := #[ts, ts] }) (base : Nat) (v : Value) (l0 l : List α) (hsv : a.eval s = v) (hown : OwnX E T w base v l0) (A : Option Addr) (c : Nat) (hx : a.eval x = .slice A l.length c) (hl : RdX E w A l) (hs : l0.length + l.length ≤ 1000000) (hb : base ≤ w.heap.size)
    (h : ∀ v' w', OwnX E T w' base v' (l0 ++ l) → w.grownBy w' v.ownBlock → (v'.ownBlock = v.ownBlock ∨ v'.ownBlock = some w.heap.size) → wpList Tryz.prog ops Q rest (a.put o.dst v') w') : wpList Tryz.prog ops Q (o :: rest) a w := by
  refine wpList_plain hgd fun K hK => ?_
  obtain ⟨v', w', hrun, h2, h3, h4⟩ := run_append_x st w base o.type v l0 l hown A c hl hs hb
  unfold Oper.wp execOp
  simp only [ho, resolve, invoke, builtin, Sem.run_bind, Sem.run_pure, Result.andThen_ok, List.map_toArray, List.map_cons, List.map_nil, hsv, hx, hrun]
  exact hK _ _ (h v' w' h2 h3 h4)
def OwnRetX (E : Enc α) (T : TypeId) (l : List α) (w : World) (e : Ending) (w' : World) : Prop := Below w.heap.size w w' ∧ ∃ v, e = .returned v ∧ OwnX E T w' w.heap.size v l
theorem rdx_one (w : World) (x : α) (T : TypeId) : RdX E (w.alloc (.cells (E.c x).toArray T)) (some ⟨w.heap.size, 0, none⟩) [x] := by
  intro i hi
  have : i = 0 := by simpa using hi
  subst this
  refine ⟨_, _, rfl, lt_alloc _ _, fun j u hu => ?_⟩
  have hh := heapn w (.cells (E.c x).toArray T) _ rfl
  rw [cell_of_row _ _ _ _ _ _ hh]
  simpa using hu
end
/-- The cells of an instruction, a guard, a pair, a number. -/
def encC : Enc InsN := ⟨4, fun i => [.int .i64 i.op, .int .i64 i.a, .int .i64 i.b, .int .i64 i.c], fun _ => rfl, fun x u hu => by simp at hu; rcases hu with rfl | rfl | rfl | rfl <;> rfl, by decide⟩
def encG : Enc GrdN := ⟨3, fun g => [.int .i64 g.frm, .int .i64 g.til, .int .i64 g.at'], fun _ => rfl, fun x u hu => by simp at hu; rcases hu with rfl | rfl | rfl <;> rfl, by decide⟩
def encP : Enc (Int × Int) := ⟨2, fun p => [.int .i64 p.1, .int .i64 p.2], fun _ => rfl, fun x u hu => by simp at hu; rcases hu with rfl | rfl <;> rfl, by decide⟩
theorem st22 : SlT encC 22 85 := ⟨Tryz.underlying22, .agg #[.int .i64 0, .int .i64 0, .int .i64 0, .int .i64 0], 32, by kernel_rfl, rfl, by decide⟩
theorem st23 : SlT encG 23 90 := ⟨Tryz.underlying23, .agg #[.int .i64 0, .int .i64 0, .int .i64 0], 24, by kernel_rfl, rfl, by decide⟩
theorem st43 : SlT encP 43 48 := ⟨Tryz.underlying43, .agg #[.int .i64 0, .int .i64 0], 16, by kernel_rfl, rfl, by decide⟩
theorem rdC_iff {w : World} {a : Option Addr} {l : List InsN} : RdX encC w a l ↔ RdC w a l := by
  constructor
  · intro h i hi
    obtain ⟨b, off, ha, hlt, h1⟩ := h i hi
    exact ⟨b, off, ha, hlt, h1 0 _ rfl, h1 1 _ rfl, h1 2 _ rfl, h1 3 _ rfl⟩
  · intro h i hi
    obtain ⟨b, off, ha, hlt, h0, h1, h2, h3⟩ := h i hi
    refine ⟨b, off, ha, hlt, fun j u hu => ?_⟩
    match j with
    | 0 => cases hu; exact h0
    | 1 => cases hu; exact h1
    | 2 => cases hu; exact h2
    | 3 => cases hu; exact h3
    | j + 4 => simp [encC] at hu
theorem rdD_iff {w : World} {a : Option Addr} {l : List GrdN} : RdX encG w a l ↔ RdD w a l := by
  constructor
  · intro h i hi
    obtain ⟨b, off, ha, hlt, h1⟩ := h i hi
    exact ⟨b, off, ha, hlt, h1 0 _ rfl, h1 1 _ rfl, h1 2 _ rfl⟩
  · intro h i hi
    obtain ⟨b, off, ha, hlt, h0, h1, h2⟩ := h i hi
    refine ⟨b, off, ha, hlt, fun j u hu => ?_⟩
    match j with
    | 0 => cases hu; exact h0
    | 1 => cases hu; exact h1
    | 2 => cases hu; exact h2
    | j + 3 => simp [encG] at hu
end Go.Proofs.YtgalekifgnecjaaGreat
