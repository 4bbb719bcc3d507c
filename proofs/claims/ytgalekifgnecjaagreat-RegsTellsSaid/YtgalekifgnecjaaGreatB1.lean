/- What is about no one program: worlds, blocks, slices of numbers, rows of rows. Instructions, forms and units: plain words; the small functions of package core. -/
import Derived.Test.YtgalekifgnecjaaGreatProg
import Derived.WalkKit
import Derived.Below
import Derived.Laws.AppendOwn
import Derived.WalkSpells
import Derived.WalkLawsBesides
import Derived.OwnWalk
import Derived.Maps.AppendAt
import Derived.IntWalk
import Derived.StillTailTactics
import Derived.Deep.CutBlock
import Derived.Deep.RegionHeld3
import Derived.Deep.RegionLaw
import Derived.Deep.QuietTactic
import Derived.BigQuiet
import Derived.WalkSmall
namespace Go.Proofs.YtgalekifgnecjaaGreat
open Go.RowKit


theorem hid {p : Prop} (h : p) : Hid p := h
theorem ret_bool {a b : Bool} (h : a = b) : Ending.returned (.bool a) = .returned (.bool b) := by rw [h]
theorem ret_int {k : IntKind} {a b : Int} (h : a = b) : Ending.returned (.int k a) = .returned (.int k b) := by rw [h]
/-- A call that returns a value and leaves the world alone. -/
def RetS (v : Value) (w : World) (e : Ending) (w' : World) : Prop := e = .returned v ∧ w = w'
/-- A call that returns a value and changes nothing that was there. -/
def RetB (v : Value) (w : World) (e : Ending) (w' : World) : Prop := e = .returned v ∧ Below w.heap.size w w'
def inB (n lo hi : Int) : Bool := decide (lo ≤ n ∧ n ≤ hi)
theorem bnew (w : World) (o : Obj) : Below w.heap.size w (w.alloc o) := (Below.refl _ _).alloc (Nat.le_refl _) _
theorem lt_alloc (w : World) (o : Obj) : w.heap.size < (w.alloc o).heap.size := by simp
theorem cell0_alloc (w : World) (v : Value) (T : TypeId) : (w.alloc (.cells #[v] T)).cell? ⟨w.heap.size, 0, none⟩ = some v := by simp
theorem take_last {α : Type} {l : List α} {k : Nat} (h : k < l.length) : l.take (k + 1) = l.take k ++ [l[k]] := by
  rw [List.take_succ_eq_append_getElem h]
theorem lt_of_heap {w : World} {b : Nat} {o : Obj} (h : w.heap[b]? = some o) : b < w.heap.size := by
  rcases Nat.lt_or_ge b w.heap.size with h' | h'
  · exact h'
  · rw [Array.getElem?_eq_none h'] at h; cases h
theorem ret_val {a b : Value} (h : a = b) : Ending.returned a = .returned b := by rw [h]
theorem _root_.Go.RowKit.Below.step {w w1 w2 : World} (h : Below w.heap.size w w1) (k : Below w1.heap.size w1 w2) : Below w.heap.size w w2 := h.trans (k.mono h.size)
theorem retS {P : Program} {f : FuncId} {args : Array Value} {w : World} {v : Value} (h : Calls P f args w (RetS v w)) : Calls P f args w fun e w'' => e = .returned v ∧ w'' = w := h.mono fun _ _ ⟨a, b⟩ => ⟨a, b.symm⟩
theorem heapn (w : World) (o : Obj) (k : Nat) (h : k = w.heap.size) : (w.alloc o).heap[k]? = some o := by subst h; exact heap_alloc_new _ _
theorem bdrew (w : World) : Below w.heap.size w w.drew := (Below.refl _ _).drew
def Ret2 (v u : Value) (w : World) (e : Ending) (w' : World) : Prop := e = .returned (.tuple #[v, u]) ∧ Below w.heap.size w w'
def Ret3 (v u x : Value) (w : World) (e : Ending) (w' : World) : Prop := e = .returned (.tuple #[v, u, x]) ∧ Below w.heap.size w w'
/-- A list of numbers, read off a slice. -/
def RdI (w : World) (a : Option Addr) (l : List Int) : Prop :=
  ∀ i (h : i < l.length), ∃ b off, a = some ⟨b, off, none⟩ ∧ b < w.heap.size ∧ w.cell? ⟨b, off + i, none⟩ = some (.int .i64 l[i])
theorem RdI.below {w w' : World} {a : Option Addr} {l : List Int} (h : RdI w a l) (hb : Below w.heap.size w w') : RdI w' a l := by
  intro i hi
  obtain ⟨b, off, ha, hlt, h1⟩ := h i hi
  exact ⟨b, off, ha, Nat.lt_of_lt_of_le hlt hb.size, cell_later hb h1⟩
/-- The first place that meets p, or -1. -/
def idxB (p : Int → Bool) (l : List Int) : Int := match l.findIdx? p with | some i => i | none => -1
/-- A slice of numbers of the call's own. -/
def OwnI (w : World) (base : Nat) (v : Value) (l : List Int) : Prop := w.ownsRow base 3 1 v l.length (l.map (Value.int .i64))
theorem info3 : (Tryz.prog.info? 3).map (fun i => (i.zero, i.size, i.bytes)) = some (some (.int .i64 0), 1, 8) := by kernel_rfl
theorem OwnI.rd {w : World} {base : Nat} {v : Value} {l : List Int} (h : OwnI w base v l) : ∃ a cap, v = .slice a l.length cap ∧ RdI w a l := by
  obtain ⟨_, h⟩ := h
  rcases h with ⟨rfl, h0⟩ | ⟨g, cap, cur, rfl, hg, hh, h1, h2, h3, h4⟩
  · exact ⟨none, 0, by rw [h0], fun i hi => by omega⟩
  · refine ⟨_, cap, rfl, fun i hi => ⟨g, 0, rfl, lt_of_heap hh, ?_⟩⟩
    rw [cell_of_row _ _ _ _ _ _ hh, Nat.zero_add]
    have e : (cur.toList.take (l.length * 1))[i]? = (l.map (Value.int .i64))[i]? := by rw [h4]
    rw [List.getElem?_take, if_pos (by omega)] at e
    simpa [hi] using e
theorem OwnI.later {w w' : World} {base : Nat} {v : Value} {l : List Int} (h : OwnI w base v l) (hb : Below w.heap.size w w') : OwnI w' base v l := by
  refine ⟨h.1, ?_⟩
  rcases h.2 with ⟨rfl, h0⟩ | ⟨g, cap, cur, rfl, hg, hh, h1⟩
  · exact .inl ⟨rfl, h0⟩
  · exact .inr ⟨g, cap, cur, rfl, hg, by rw [hb.block g (lt_of_heap hh)]; exact hh, h1⟩
theorem OwnI.mono {w : World} {base base' : Nat} {v : Value} {l : List Int} (h : OwnI w base v l) (hb : base' ≤ base) : OwnI w base' v l := by
  refine ⟨h.1, ?_⟩
  rcases h.2 with h0 | ⟨g, cap, cur, rfl, hg, h1⟩
  · exact .inl h0
  · exact .inr ⟨g, cap, cur, rfl, Nat.le_trans hb hg, h1⟩
theorem own_ge {w : World} {base : Nat} {e : TypeId} {size : Nat} {v : Value} {n : Nat} {xs : List Value} (h : w.ownsRow base e size v n xs) : ∀ k, v.ownBlock = some k → base ≤ k := by
  rcases h.2 with ⟨rfl, _⟩ | ⟨g, cap, cur, rfl, hg, _⟩
  · intro k hk
    cases hk
  · intro k hk
    cases hk
    exact hg
theorem own_later {w w' : World} {base : Nat} {e : TypeId} {sz : Nat} {v : Value} {n : Nat} {xs : List Value} (h : w.ownsRow base e sz v n xs) (hk : ∀ b, v.ownBlock = some b → b < w.heap.size → w'.heap[b]? = w.heap[b]?) : w'.ownsRow base e sz v n xs := by
  refine ⟨h.1, ?_⟩
  rcases h.2 with ⟨rfl, h0⟩ | ⟨g, cap, cur, rfl, hg, hh, h1⟩
  · exact .inl ⟨rfl, h0⟩
  · exact .inr ⟨g, cap, cur, rfl, hg, by rw [hk g rfl (lt_of_heap hh)]; exact hh, h1⟩
theorem own_base {w : World} {base base' : Nat} {e : TypeId} {sz : Nat} {v : Value} {n : Nat} {xs : List Value} (h : w.ownsRow base e sz v n xs) (hb : base' ≤ base) : w.ownsRow base' e sz v n xs := by
  refine ⟨h.1, ?_⟩
  rcases h.2 with h | ⟨g, cap, cur, h1, hg, h2⟩
  · exact .inl h
  · exact .inr ⟨g, cap, cur, h1, by omega, h2⟩
theorem bdrewN {B : Nat} {a w : World} (h : Below B a w) (n : Nat) : Below B a (w.drewN n) := ⟨h.os, h.tape, h.output, h.size, h.block⟩
theorem cell_in {w : World} {b k : Nat} {c : Array Value} {e : TypeId} {v : Value} (h : w.heap[b]? = some (.cells c e (0, 0))) (hk : c[k]? = some v) : w.cell? ⟨b, k, none⟩ = some v := by
  rw [cell_of_row _ _ _ _ _ _ h]
  exact hk
theorem froz_in {w : World} {b k : Nat} {c : Array Value} {e : TypeId} (h : w.heap[b]? = some (.cells c e (0, 0))) : w.frozen? ⟨b, k, none⟩ = false := by simp [World.frozen?, h]
theorem box_kept {W1 w1 : World} {g : Option Nat} (hg : W1.grownBy w1 g) {b : Nat} {o : Obj} (hb : W1.heap[b]? = some o) (hne : some b ≠ g) : w1.heap[b]? = some o := (hg.block b (lt_of_heap hb) hne).trans hb
theorem wrapk {x : Int} (h : -9223372036854775808 ≤ x ∧ x ≤ 9223372036854775807) : IntKind.i64.wrap x = x := IntWalk.i64_in _ h
theorem own_below {w w' : World} {base : Nat} {e : TypeId} {size : Nat} {v : Value} {n : Nat} {xs : List Value} (h : w.ownsRow base e size v n xs) (hb : Below w.heap.size w w') : w'.ownsRow base e size v n xs := by
  refine ⟨h.1, ?_⟩
  rcases h.2 with ⟨rfl, h0⟩ | ⟨g, cap, cur, rfl, hg, hh, h1⟩
  · exact .inl ⟨rfl, h0⟩
  · exact .inr ⟨g, cap, cur, rfl, hg, by rw [hb.block g (lt_of_heap hh)]; exact hh, h1⟩
theorem keepBox {w w' : World} {b : Nat} {o : Obj} (hb : Below w.heap.size w w') (h : w.heap[b]? = some o) : w'.heap[b]? = some o := (hb.block b (lt_of_heap h)).trans h
theorem box2 {W : World} {b : Nat} {x y : Value} {T : TypeId} (h : W.heap[b]? = some (.cells #[x, y] T (0, 0))) : W.cell? ⟨b, 0, none⟩ = some x ∧ W.cell? ⟨b, 1, none⟩ = some y ∧ W.frozen? ⟨b, 0, none⟩ = false ∧ W.frozen? ⟨b, 1, none⟩ = false := by
  simp [World.cell?, World.frozen?, h]
theorem box3 {W : World} {b : Nat} {x y z : Value} {T : TypeId} (h : W.heap[b]? = some (.cells #[x, y, z] T (0, 0))) : W.cell? ⟨b, 0, none⟩ = some x ∧ W.cell? ⟨b, 1, none⟩ = some y ∧ W.cell? ⟨b, 2, none⟩ = some z ∧ W.frozen? ⟨b, 0, none⟩ = false ∧ W.frozen? ⟨b, 1, none⟩ = false ∧ W.frozen? ⟨b, 2, none⟩ = false := by
  simp [World.cell?, World.frozen?, h]
theorem RdI.cells {w : World} {b off : Nat} {l : List Int} (h : RdI w (some ⟨b, off, none⟩) l) : ∀ j u, (l.map (Value.int .i64))[j]? = some u → w.cell? ((⟨b, off, none⟩ : Addr).add j) = some u := by
  intro j u hu
  have hj : j < l.length := by
    have := (List.getElem?_eq_some_iff.1 hu).1
    rwa [List.length_map] at this
  obtain ⟨b', off', e, hlt, h0⟩ := h j hj
  simp only [Option.some.injEq, Addr.mk.injEq, and_true] at e
  obtain ⟨rfl, rfl⟩ := e
  have ea : ((⟨b, off, none⟩ : Addr).add j) = ⟨b, off + j, none⟩ := by
    unfold Addr.add
    by_cases h0 : j = 0
    · subst h0; simp
    · simp [h0]
  rw [ea, h0]
  simpa [hj] using hu
theorem run_append_ints (w : World) (base : Nat) (ty : TypeId) (v : Value) (l0 l : List Int) (hown : OwnI w base v l0) (a : Option Addr) (c : Nat) (hl : RdI w a l) (hs : l0.length + l.length ≤ 1000000) (hb : base ≤ w.heap.size) :
    ∃ v' w', (Builtin.append_ #[28, 28] ty #[v, .slice a l.length c]).run Tryz.prog w = .ok v' w' ∧ OwnI w' base v' (l0 ++ l) ∧ w.grownBy w' v.ownBlock ∧ (v'.ownBlock = v.ownBlock ∨ v'.ownBlock = some w.heap.size) := by
  obtain ⟨i0, hi, hz0, hz1, hz2⟩ := info_parts info3
  cases a with
  | none =>
    have hl0 : l = [] := by
      cases l with
      | nil => rfl
      | cons x l =>
        obtain ⟨b, off, e, _⟩ := hl 0 (Nat.succ_pos _)
        cases e
    subst hl0
    refine ⟨v, w, ?_, by rw [List.append_nil]; exact hown, ⟨rfl, rfl, rfl, Nat.le_refl _, fun _ _ _ => rfl⟩, .inl rfl⟩
    rcases hown.2 with ⟨rfl, h0⟩ | ⟨g, cap, cur, rfl, _, _, hnc, _⟩
    · simp [Builtin.append_, run_underlying Tryz.underlying28, sizeOf, typeInfo, hi, Builtin.lenOf, Builtin.firstCells]
    · simp [Builtin.append_, run_underlying Tryz.underlying28, sizeOf, typeInfo, hi, Builtin.lenOf, Builtin.firstCells, hnc, storeCells]
  | some ad =>
    have hcells : ∀ j u, (l.map (Value.int .i64))[j]? = some u → w.cell? (ad.add j) = some u := by
      cases l with
      | nil => intro j u hu; simp at hu
      | cons x l =>
        obtain ⟨b, off, e, _⟩ := hl 0 (Nat.succ_pos _)
        injection e with e
        subst e
        exact hl.cells
    have hone : ∀ u ∈ l.map (Value.int .i64), u.oneCell' = true := by
      intro u hu
      obtain ⟨x, _, rfl⟩ := List.mem_map.1 hu
      rfl
    obtain ⟨v', w', h1, h2, h3, _, h5⟩ := run_append_own_at (P := Tryz.prog) w base 28 ty 3 i0 _ 1 8 Tryz.underlying28 hi hz0 hz1 hz2 rfl (by decide) v l0.length (l0.map (Value.int .i64)) hown ad l.length c (l.map (Value.int .i64)) (by simp) hcells hone (by unfold maxLen; omega) (by omega) hb
    refine ⟨v', w', h1, ?_, h3, h5⟩
    unfold OwnI
    rw [List.length_append, List.map_append]
    exact h2
theorem wpList_append_ints {ops : Array Oper} {rest : List Oper} {o : Oper} {a : Act} {Q : Exit → Act → World → Prop} (w : World) (hgd : o.guard = none) (s x : Operand)
    (ho : o.op = .call { callee := .builtin .append, args := #[s, x], argTypes := #[28, 28] }) (base : Nat) (v : Value) (l0 l : List Int) (hsv : a.eval s = v) (hown : OwnI w base v l0) (A : Option Addr) (c : Nat) (hx : a.eval x = .slice A l.length c) (hl : RdI w A l) (hs : l0.length + l.length ≤ 1000000) (hb : base ≤ w.heap.size)
    (h : ∀ v' w', OwnI w' base v' (l0 ++ l) → w.grownBy w' v.ownBlock → (v'.ownBlock = v.ownBlock ∨ v'.ownBlock = some w.heap.size) → wpList Tryz.prog ops Q rest (a.put o.dst v') w') : wpList Tryz.prog ops Q (o :: rest) a w := by
  refine wpList_plain hgd fun K hK => ?_
  obtain ⟨v', w', hrun, h2, h3, h4⟩ := run_append_ints w base o.type v l0 l hown A c hl hs hb
  unfold Oper.wp execOp
  simp only [ho, resolve, invoke, builtin, Sem.run_bind, Sem.run_pure, Result.andThen_ok, List.map_toArray, List.map_cons, List.map_nil, hsv, hx, hrun]
  exact hK _ _ (h v' w' h2 h3 h4)
theorem OwnI.none {w : World} {base g : Nat} (hb : base ≤ g) (h : w.heap[g]? = some (.cells #[] 3 (0, 0))) : OwnI w base (.slice (some ⟨g, 0, none⟩) 0 0) [] := ⟨rfl, .inr ⟨g, 0, #[], rfl, hb, h, Nat.le_refl _, Nat.zero_le _, rfl, rfl⟩⟩
/-- Block g holds the numbers L from its head on. -/
def BI (w : World) (g : Nat) (L : List Int) : Prop := ∃ cur, w.heap[g]? = some (.cells cur 3 (0, 0)) ∧ ∀ i (h : i < L.length), cur[i]? = some (.int .i64 L[i])
theorem BI.of_own {w : World} {base : Nat} {v : Value} {L : List Int} (h : OwnI w base v L) (hne : L ≠ []) : ∃ g cap, v = .slice (some ⟨g, 0, none⟩) L.length cap ∧ base ≤ g ∧ BI w g L := by
  rcases h.2 with ⟨_, h0⟩ | ⟨g, cap, cur, rfl, hg, hh, h1, h2, h3, h4⟩
  · exact absurd (List.length_eq_zero_iff.1 h0) hne
  · refine ⟨g, cap, rfl, hg, cur, hh, fun i hi => ?_⟩
    have e : (cur.toList.take (L.length * 1))[i]? = (L.map (Value.int .i64))[i]? := by rw [h4]
    rw [List.getElem?_take, if_pos (by omega)] at e
    simpa [hi] using e
theorem BI.at {w : World} {g : Nat} {L : List Int} (h : BI w g L) {i : Nat} (hi : i < L.length) : w.cell? ⟨g, i, none⟩ = some (.int .i64 L[i]) := by
  obtain ⟨cur, hh, hc⟩ := h
  rw [cell_of_row _ _ _ _ _ _ hh]
  exact hc i hi
theorem BI.frozen {w : World} {g : Nat} {L : List Int} (h : BI w g L) (o : Nat) : w.frozen? ⟨g, o, none⟩ = false := by
  obtain ⟨cur, hh, _⟩ := h
  simp [World.frozen?, hh]
theorem BI.lt {w : World} {g : Nat} {L : List Int} (h : BI w g L) : g < w.heap.size := by
  obtain ⟨cur, hh, _⟩ := h
  exact lt_of_heap hh
theorem BI.rd {w : World} {g : Nat} {L : List Int} (h : BI w g L) : RdI w (some ⟨g, 0, none⟩) L := fun i hi => ⟨g, 0, rfl, h.lt, by rw [Nat.zero_add]; exact h.at hi⟩
theorem BI.keep {w w' : World} {g : Nat} {L : List Int} (h : BI w g L) (e : w'.heap[g]? = w.heap[g]?) : BI w' g L := by
  obtain ⟨cur, hh, hc⟩ := h
  exact ⟨cur, by rw [e]; exact hh, hc⟩
theorem BI.below {w w' : World} {g : Nat} {L : List Int} (h : BI w g L) (hb : Below w.heap.size w w') : BI w' g L := h.keep (hb.block g h.lt)
theorem BI.set {w : World} {g : Nat} {L : List Int} (h : BI w g L) {i : Nat} (hi : i < L.length) (v : Int) : BI (w.setCell ⟨g, i, none⟩ (.int .i64 v)) g (L.set i v) := by
  obtain ⟨cur, hh, hc⟩ := h
  have hsz : i < cur.size := (Array.getElem?_eq_some_iff.1 (hc i hi)).1
  refine ⟨_, heap_setCell_same _ _ _ _ _ _ hh, fun k hk => ?_⟩
  have hk' : k < L.length := by simpa using hk
  rw [Array.getElem?_setIfInBounds, List.getElem_set]
  by_cases e : i = k
  · subst e
    simp [hsz]
  · rw [if_neg e, if_neg e]
    exact hc k hk'
/-- The first place that meets p, or -1. -/
def idxP {α : Type} (p : α → Bool) (l : List α) : Int := match l.findIdx? p with | some i => i | none => -1
theorem idxP_some {α : Type} {p : α → Bool} {l : List α} {i : Nat} (h : i < l.length) (hp : p l[i] = true) (hn : ∀ x, x ∈ l.take i → p x = false) : idxP p l = i := by
  unfold idxP
  have : l.findIdx? p = some i := by
    rw [List.findIdx?_eq_some_iff_getElem]
    refine ⟨h, hp, fun j hj => ?_⟩
    have := hn l[j] (by rw [List.mem_take_iff_getElem]; exact ⟨j, by omega, rfl⟩)
    simp [this]
  rw [this]
theorem idxP_none {α : Type} {p : α → Bool} {l : List α} (hn : ∀ x, x ∈ l → p x = false) : idxP p l = -1 := by
  unfold idxP
  have : l.findIdx? p = none := by rw [List.findIdx?_eq_none_iff]; exact fun x hx => hn x hx
  rw [this]
theorem idxP_any {α : Type} (p : α → Bool) (l : List α) : decide (0 ≤ idxP p l) = l.any p := by
  unfold idxP
  cases h : l.findIdx? p with
  | none =>
    rw [List.findIdx?_eq_none_iff] at h
    symm
    rw [show decide ((0 : Int) ≤ -1) = false from rfl, List.any_eq_false]
    intro x hx
    simp [h x hx]
  | some i =>
    obtain ⟨hi, hp, _⟩ := List.findIdx?_eq_some_iff_getElem.1 h
    have : l.any p = true := List.any_eq_true.2 ⟨_, List.getElem_mem hi, hp⟩
    rw [this]
    simp
theorem idxP_lt {α : Type} (p : α → Bool) (l : List α) : -1 ≤ idxP p l ∧ idxP p l < l.length := by
  unfold idxP
  cases h : l.findIdx? p with
  | none => exact ⟨Int.le_refl _, by have := Int.natCast_nonneg l.length; show (-1 : Int) < _; omega⟩
  | some i =>
    obtain ⟨hi, _, _⟩ := List.findIdx?_eq_some_iff_getElem.1 h
    exact ⟨by show (-1 : Int) ≤ (i : Int); omega, by show (i : Int) < _; omega⟩
theorem getD_in {α : Type} {l : List α} {d : α} {i : Nat} (h : i < l.length) : l.getD i d = l[i] := by
  rw [List.getD_eq_getElem?_getD, List.getElem?_eq_getElem h]
  rfl
/-- A list of lists of numbers, read off a slice of slices. -/
def RdM (w : World) (a : Option Addr) (m : List (List Int)) : Prop :=
  ∀ i (h : i < m.length), ∃ b off, a = some ⟨b, off, none⟩ ∧ b < w.heap.size ∧ ∃ ai ci, w.cell? ⟨b, off + i, none⟩ = some (.slice ai m[i].length ci) ∧ RdI w ai m[i]
theorem RdM.below {w w' : World} {a : Option Addr} {m : List (List Int)} (h : RdM w a m) (hb : Below w.heap.size w w') : RdM w' a m := by
  intro i hi
  obtain ⟨b, off, ha, hlt, ai, ci, h1, h2⟩ := h i hi
  exact ⟨b, off, ha, Nat.lt_of_lt_of_le hlt hb.size, ai, ci, cell_later hb h1, h2.below hb⟩
theorem RdI.at {w : World} {a : Option Addr} {l : List Int} (h : RdI w a l) {i : Nat} (hi : i < l.length) : ∃ b off, a = some ⟨b, off, none⟩ ∧ b < w.heap.size ∧ w.cell? ⟨b, off + i, none⟩ = some (.int .i64 (l.getD i (-1))) := by
  obtain ⟨b, off, h1, h2, h3⟩ := h i hi
  exact ⟨b, off, h1, h2, by rw [getD_in hi]; exact h3⟩
/-- Small numbers as numbers of the program. -/
def asI (l : List Nat) : List Int := l.map Int.ofNat
theorem rd_one (w : World) (x : Int) (T : TypeId) : RdI (w.alloc (.cells #[.int .i64 x] T)) (some ⟨w.heap.size, 0, none⟩) [x] := by
  intro i hi
  obtain rfl : i = 0 := by simp at hi; exact hi
  exact ⟨_, _, rfl, lt_alloc _ _, cell0_alloc _ _ _⟩
theorem all_false {p : Nat → Bool} {n k : Nat} (hk : k < n) (hp : p k = false) : (List.range n).all p = false := by
  rw [Bool.eq_false_iff]
  intro h
  have := List.all_eq_true.1 h k (List.mem_range.2 hk)
  rw [hp] at this
  cases this
/-- What a call returns: numbers of its own. -/
def OwnRet (l : List Int) (w : World) (e : Ending) (w' : World) : Prop := Below w.heap.size w w' ∧ ∃ v, e = .returned v ∧ OwnI w' w.heap.size v l
theorem RdM.row {w : World} {a : Option Addr} {m : List (List Int)} (h : RdM w a m) {i : Nat} (hi : i < m.length) : ∃ b off, a = some ⟨b, off, none⟩ ∧ b < w.heap.size ∧ ∃ ai ci, w.cell? ⟨b, off + i, none⟩ = some (.slice ai (m.getD i []).length ci) ∧ RdI w ai (m.getD i []) := by
  obtain ⟨b, off, ha, hlt, h1⟩ := h i hi
  exact ⟨b, off, ha, hlt, by rw [getD_in hi]; exact h1⟩


/-- An instruction. -/
structure InsN where
  op : Int
  a : Int
  b : Int
  c : Int
/-- A guard. -/
structure GrdN where
  frm : Int
  til : Int
  at' : Int
/-- A unit. -/
structure UntN where
  cls : ByteArray
  name : ByteArray
  args : Int
  slots : Int
  frame : Int
  code : List InsN
  guards : List GrdN
/-- What an operation has and does: the name, the kinds of A, B, C; what is written, what is read; whether it raises, whether it ends. -/
structure FormN where
  name : Array UInt8
  h0 : Int
  h1 : Int
  h2 : Int
  wr : Int
  r0 : Int
  r1 : Int
  rs : Bool
  en : Bool
def form0 : FormN := ⟨#[], 0, 0, 0, 0, 0, 0, false, false⟩
def formT : List FormN := [form0,
  ⟨#[105, 110, 116], 1, 4, 0, 1, 0, 0, false, false⟩,
  ⟨#[98, 111, 111, 108], 1, 5, 0, 1, 0, 0, false, false⟩,
  ⟨#[118, 111, 105, 100], 1, 0, 0, 1, 0, 0, false, false⟩,
  ⟨#[109, 111, 118, 101], 1, 1, 0, 1, 2, 0, false, false⟩,
  ⟨#[115, 101, 108, 102], 1, 0, 0, 1, 0, 0, false, false⟩,
  ⟨#[97, 100, 100], 1, 1, 1, 1, 2, 3, true, false⟩,
  ⟨#[115, 117, 98], 1, 1, 1, 1, 2, 3, true, false⟩,
  ⟨#[109, 117, 108], 1, 1, 1, 1, 2, 3, true, false⟩,
  ⟨#[100, 105, 118], 1, 1, 1, 1, 2, 3, true, false⟩,
  ⟨#[109, 111, 100], 1, 1, 1, 1, 2, 3, true, false⟩,
  ⟨#[110, 101, 103], 1, 1, 0, 1, 2, 0, false, false⟩,
  ⟨#[101, 113], 1, 1, 1, 1, 2, 3, false, false⟩,
  ⟨#[108, 101, 115, 115], 1, 1, 1, 1, 2, 3, false, false⟩,
  ⟨#[109, 111, 115, 116], 1, 1, 1, 1, 2, 3, false, false⟩,
  ⟨#[110, 111, 116], 1, 1, 0, 1, 2, 0, false, false⟩,
  ⟨#[104, 97, 115], 1, 1, 0, 1, 2, 0, false, false⟩,
  ⟨#[103, 101, 116], 1, 2, 7, 1, 2, 0, true, false⟩,
  ⟨#[115, 101, 116], 7, 1, 0, 0, 2, 0, false, false⟩,
  ⟨#[97, 114, 103], 6, 1, 0, 0, 2, 0, false, false⟩,
  ⟨#[99, 97, 108, 108], 2, 2, 8, 1, 2, 0, true, false⟩,
  ⟨#[110, 101, 119], 1, 10, 5, 1, 0, 0, true, false⟩,
  ⟨#[109, 97, 107, 101], 1, 9, 0, 0, 1, 0, true, false⟩,
  ⟨#[105, 110, 118], 2, 0, 0, 0, 1, 0, true, false⟩,
  ⟨#[106, 117, 109, 112], 3, 0, 0, 0, 0, 0, false, true⟩,
  ⟨#[102, 97, 108, 115, 101], 1, 3, 0, 0, 1, 0, false, false⟩,
  ⟨#[114, 97, 105, 115, 101], 11, 0, 0, 0, 0, 0, true, true⟩,
  ⟨#[102, 97, 105, 108], 0, 0, 0, 0, 0, 0, true, true⟩,
  ⟨#[114, 101, 116], 2, 0, 0, 0, 1, 0, false, true⟩,
  ⟨#[112, 117, 116], 1, 0, 0, 0, 1, 0, false, false⟩,
  ⟨#[101, 110, 116, 101, 114], 1, 0, 0, 0, 1, 0, true, false⟩,
  ⟨#[108, 101, 97, 118, 101], 0, 0, 0, 0, 0, 0, false, false⟩,
  ⟨#[97, 103, 97, 105, 110], 1, 3, 0, 0, 1, 0, true, false⟩,
  ⟨#[108, 111, 97, 100], 1, 12, 0, 1, 0, 0, false, false⟩,
  ⟨#[115, 116, 111, 114, 101], 12, 1, 0, 0, 2, 0, false, false⟩]
def opOk (op : Int) : Bool := decide (1 ≤ op) && decide (op ≤ 34)
def formL (op : Int) : FormN := if opOk op = true then formT.getD op.toNat form0 else form0
abbrev vI (i : InsN) : Value := .agg #[.int .i64 i.op, .int .i64 i.a, .int .i64 i.b, .int .i64 i.c]
abbrev vG (g : GrdN) : Value := .agg #[.int .i64 g.frm, .int .i64 g.til, .int .i64 g.at']
abbrev vU (u : UntN) (ca : Option Addr) (cc : Nat) (ga : Option Addr) (gc : Nat) : Value := .agg #[.string u.cls, .string u.name, .int .i64 u.args, .int .i64 u.slots, .int .i64 u.frame, .slice ca u.code.length cc, .slice ga u.guards.length gc]
abbrev cF (f : FormN) : Array Value := #[.string ⟨f.name⟩, .int .i64 f.h0, .int .i64 f.h1, .int .i64 f.h2, .int .i64 f.wr, .int .i64 f.r0, .int .i64 f.r1, .bool f.rs, .bool f.en]
abbrev vF (f : FormN) : Value := .agg (cF f)
def partN (i : InsN) (k : Nat) : Int := match k with | 0 => i.a | 1 => i.b | _ => i.c
def hasN (f : FormN) (k : Nat) : Int := match k with | 0 => f.h0 | 1 => f.h1 | _ => f.h2
/-- The places that an instruction names. -/
def placesL (i : InsN) : List Int := ((List.range 3).filter fun k => hasN (formL i.op) k == 3).map (partN i)
/-- The first guard in which an instruction stands, or -1. -/
def guardIn (at' : Int) (g : GrdN) : Bool := decide (g.frm ≤ at') && decide (at' < g.til)
def guardL (u : UntN) (at' : Int) : Int := idxP (guardIn at') u.guards
def ins0 : InsN := ⟨0, 0, 0, 0⟩
def grd0 : GrdN := ⟨0, 0, 0⟩
/-- The places to which an instruction leads, and how. -/
def leadsL (u : UntN) (at' : Nat) : List (Int × Int) :=
  (if (!(formL (u.code.getD at' ins0).op).en && decide (at' + 1 < u.code.length)) = true then [((at' : Int) + 1, 0)] else []) ++ (placesL (u.code.getD at' ins0)).map (fun p => (p, 1)) ++
  (if ((formL (u.code.getD at' ins0).op).rs && decide (0 ≤ guardL u at')) = true then [((u.guards.getD (guardL u at').toNat grd0).at', 2)] else [])
/-- Instructions, read off a slice. -/
def RdC (w : World) (a : Option Addr) (l : List InsN) : Prop :=
  ∀ i (h : i < l.length), ∃ b off, a = some ⟨b, off, none⟩ ∧ b < w.heap.size ∧ w.cell? ⟨b, off + i * 4, none⟩ = some (.int .i64 l[i].op) ∧ w.cell? ⟨b, off + i * 4 + 1, none⟩ = some (.int .i64 l[i].a) ∧ w.cell? ⟨b, off + i * 4 + 2, none⟩ = some (.int .i64 l[i].b) ∧ w.cell? ⟨b, off + i * 4 + 3, none⟩ = some (.int .i64 l[i].c)
theorem RdC.below {w w' : World} {a : Option Addr} {l : List InsN} (h : RdC w a l) (hb : Below w.heap.size w w') : RdC w' a l := by
  intro i hi
  obtain ⟨b, off, ha, hlt, h0, h1, h2, h3⟩ := h i hi
  exact ⟨b, off, ha, Nat.lt_of_lt_of_le hlt hb.size, cell_later hb h0, cell_later hb h1, cell_later hb h2, cell_later hb h3⟩
/-- Guards, read off a slice. -/
def RdD (w : World) (a : Option Addr) (l : List GrdN) : Prop :=
  ∀ i (h : i < l.length), ∃ b off, a = some ⟨b, off, none⟩ ∧ b < w.heap.size ∧ w.cell? ⟨b, off + i * 3, none⟩ = some (.int .i64 l[i].frm) ∧ w.cell? ⟨b, off + i * 3 + 1, none⟩ = some (.int .i64 l[i].til) ∧ w.cell? ⟨b, off + i * 3 + 2, none⟩ = some (.int .i64 l[i].at')
theorem RdD.below {w w' : World} {a : Option Addr} {l : List GrdN} (h : RdD w a l) (hb : Below w.heap.size w w') : RdD w' a l := by
  intro i hi
  obtain ⟨b, off, ha, hlt, h0, h1, h2⟩ := h i hi
  exact ⟨b, off, ha, Nat.lt_of_lt_of_le hlt hb.size, cell_later hb h0, cell_later hb h1, cell_later hb h2⟩
/-- A unit in memory. -/
structure UnM (w : World) (u : UntN) (ca : Option Addr) (cc : Nat) (ga : Option Addr) (gc : Nat) : Prop where
  rc : RdC w ca u.code
  rg : RdD w ga u.guards
  lc : u.code.length ≤ cc
  lg : u.guards.length ≤ gc
theorem UnM.below {w w' : World} {u : UntN} {ca : Option Addr} {cc : Nat} {ga : Option Addr} {gc : Nat} (h : UnM w u ca cc ga gc) (hb : Below w.heap.size w w') : UnM w' u ca cc ga gc := ⟨h.rc.below hb, h.rg.below hb, h.lc, h.lg⟩
theorem box4 {W : World} {b : Nat} {x0 x1 x2 x3 : Value} {T : TypeId} (h : W.heap[b]? = some (.cells #[x0, x1, x2, x3] T (0, 0))) : W.cell? ⟨b, 0, none⟩ = some x0 ∧ W.cell? ⟨b, 1, none⟩ = some x1 ∧ W.cell? ⟨b, 2, none⟩ = some x2 ∧ W.cell? ⟨b, 3, none⟩ = some x3 :=
  ⟨(cell_of_row _ _ _ _ _ _ h).trans rfl, (cell_of_row _ _ _ _ _ _ h).trans rfl, (cell_of_row _ _ _ _ _ _ h).trans rfl, (cell_of_row _ _ _ _ _ _ h).trans rfl⟩
theorem box7 {W : World} {b : Nat} {x0 x1 x2 x3 x4 x5 x6 : Value} {T : TypeId} (h : W.heap[b]? = some (.cells #[x0, x1, x2, x3, x4, x5, x6] T (0, 0))) : W.cell? ⟨b, 0, none⟩ = some x0 ∧ W.cell? ⟨b, 1, none⟩ = some x1 ∧ W.cell? ⟨b, 2, none⟩ = some x2 ∧ W.cell? ⟨b, 3, none⟩ = some x3 ∧ W.cell? ⟨b, 4, none⟩ = some x4 ∧ W.cell? ⟨b, 5, none⟩ = some x5 ∧ W.cell? ⟨b, 6, none⟩ = some x6 :=
  ⟨(cell_of_row _ _ _ _ _ _ h).trans rfl, (cell_of_row _ _ _ _ _ _ h).trans rfl, (cell_of_row _ _ _ _ _ _ h).trans rfl, (cell_of_row _ _ _ _ _ _ h).trans rfl, (cell_of_row _ _ _ _ _ _ h).trans rfl, (cell_of_row _ _ _ _ _ _ h).trans rfl, (cell_of_row _ _ _ _ _ _ h).trans rfl⟩
def inN (n lo hi : Int) : Bool := decide (lo ≤ n) && decide (n ≤ hi)
/-- A byte of a name. -/
def nameB (c : UInt8) : Bool := (97 ≤ c && c ≤ 122) || (65 ≤ c && c ≤ 90) || (48 ≤ c && c ≤ 57) || c == 95
def namedB (s : ByteArray) : Bool := s.data.toList.all nameB && inN s.size 1 20
theorem within_any (n lo hi : Int) (w : World) : Calls Tryz.prog 91 #[.int .i64 n, .int .i64 lo, .int .i64 hi] w (RetS (.bool (inN n lo hi)) w) := by
  have H : Hid (inN n lo hi = (decide (lo ≤ n) && decide (n ≤ hi))) := hid rfl
  generalize inN n lo hi = r at *
  by_cases h1 : lo ≤ n
  · by_cases h2 : n ≤ hi
    · go_enter Tryz.func91, Tryz.ntmps91
      go_wp2
      go_ret
      exact ⟨ret_bool (by rw [H.out]; simp [h1, h2]), rfl⟩
    · have d2 : decide (n ≤ hi) = false := decide_eq_false h2
      go_enter Tryz.func91, Tryz.ntmps91
      go_wp2
      go_ret
      exact ⟨ret_bool (by rw [H.out]; simp [h1, h2]), rfl⟩
  · have d1 : decide (lo ≤ n) = false := decide_eq_false h1
    go_enter Tryz.func91, Tryz.ntmps91
    go_wp2
    go_ret
    exact ⟨ret_bool (by rw [H.out, d1]; rfl), rfl⟩
/-- Operations that build, one behind the other. -/
def buildsRun (P : Program) : List Oper → Act → Option Act
  | [], a => some a
  | o :: l, a => match o.guard, o.op with
    | none, .build t parts => match P.built t (parts.map fun (i, x) => (i, a.eval x)).toList with
      | some C => buildsRun P l (a.put o.dst (.agg C))
      | none => none
    | _, _ => none
theorem wpList_builds {P : Program} {ops : Array Oper} {w : World} {Q : Exit → Act → World → Prop} : ∀ (l1 : List Oper) (a a' : Act) (rest : List Oper), buildsRun P l1 a = some a' → wpList P ops Q rest a' w → wpList P ops Q (l1 ++ rest) a w
  | [], a, a', rest, h, hK => by
    obtain rfl : a = a' := Option.some.inj h
    exact hK
  | o :: l, a, a', rest, h, hK => by
    unfold buildsRun at h
    split at h
    · rename_i t parts hg ho
      split at h
      · rename_i C hC
        refine wpList_build hg t parts ho (by rw [hC]; rfl) ?_
        rw [hC]
        exact wpList_builds l _ a' rest h hK
      · cases h
    · cases h
theorem wpList_buildsN {P : Program} {ops : Array Oper} {w : World} {Q : Exit → Act → World → Prop} (n : Nat) (l : List Oper) (a : Act) (h : (buildsRun P (l.take n) a).isSome = true) (hK : wpList P ops Q (l.drop n) ((buildsRun P (l.take n) a).getD a) w) : wpList P ops Q l a w := by
  obtain ⟨a', ha⟩ := Option.isSome_iff_exists.1 h
  rw [ha] at hK
  have := wpList_builds (l.take n) a a' (l.drop n) ha hK
  rwa [List.take_append_drop] at this
theorem one_of {l : List Oper} {x : Op} (h : l.map (fun o => (o.guard, o.op, o.dst)) = [(none, x, none)]) : ∃ o, l = [o] ∧ o.guard = none ∧ o.op = x ∧ o.dst = none := by
  cases l with
  | nil => cases h
  | cons o l =>
    cases l with
    | nil =>
      simp only [List.map_cons, List.map_nil, List.cons.injEq, Prod.mk.injEq, and_true] at h
      exact ⟨o, rfl, h.1, h.2.1, h.2.2⟩
    | cons _ _ => simp at h
/-- All forms, as one value. -/
def formsC : Array Value := (formT.flatMap fun f => (cF f).toList).toArray
theorem size134 : (Tryz.prog.info? 235).map (·.size) = some 315 := by kernel_rfl
set_option maxRecDepth 100000 in
set_option maxHeartbeats 4000000 in
theorem forms_any (w : World) : Calls Tryz.prog 197 #[] w (RetB (.agg formsC) w) := by
  go_enter Tryz.func197, Tryz.ntmps197
  go_upto_region 1 with fail
  rename_i K hK
  refine wp_region_lit ?_
  refine wpList_buildsN 103 _ _ (by kernel_rfl) ?_
  obtain ⟨o, ho, hg, hop, hds⟩ := one_of (l := List.drop 103 _) (x := .store 235 (.tmp 0) (.tmp 103)) (by kernel_rfl)
  rw [ho]
  refine wpList_store_row hg 235 (.tmp 0) (.tmp 103) hop w.heap.size formsC (by kernel_rfl) (by kernel_rfl) 235 Tryz.zeroCells235 (heapn _ _ _ rfl) (size134.trans (by kernel_rfl)) (by kernel_rfl) (by kernel_rfl) ?_
  rw [hds]
  refine wpList_nil ?_
  refine hK _ _ ?_
  clear hK K
  go_wp2
  refine bodyPost_ret (v := .agg formsC) (results_cell_row rfl _ _ w.heap.size 235 formsC (0, 0) _ (by kernel_rfl) (setRow_heap _ _ _ _ _ _ (heapn _ _ _ rfl)) Tryz.underlying235 rfl (size134.trans (by kernel_rfl))) (by kernel_rfl) ⟨rfl, ?_⟩
  exact (bnew _ _).trans ⟨rfl, rfl, rfl, by simp, fun k hk => setRow_other _ _ _ _ (by omega)⟩
theorem results_row_tmp {P : Program} {fn : Func} {p u : Tmp} {ty : TypeId} (h : fn.results = #[.cell p ty, .tmp u]) (tmps : Array Value) (w : World) (g : Nat) (t : TypeId) (cs : Array Value) (fr : Nat × Nat) (d : TypeDesc)
    (hp : tmps.getD p undef = .pointer (some ⟨g, 0, none⟩)) (hg : w.heap[g]? = some (.cells cs t fr))
    (hu : P.underlying ty = some d) (hd : (match d with | .struct _ | .array _ _ => true | _ => false) = true) (hi : (P.info? ty).map (·.size) = some cs.size) (v : Value) (hv : tmps.getD u undef = v) :
    (results fn tmps).run P w = .ok (.tuple #[.agg cs, v]) w := by
  rw [results_cell_tmp h, hp, hv]
  show ((loadVar ty ⟨g, 0, none⟩).run P w).andThen _ = _
  rw [run_loadVar_row w g t ty cs fr d hg hu hd hi]
  rfl
theorem cF_one (f : FormN) : (cF f).all (·.oneCell') = true := by simp [cF, Value.oneCell']
theorem size119 : (Tryz.prog.info? 186).map (·.size) = some 9 := by kernel_rfl
theorem index134 (w : World) : ∀ k : Nat, k < 35 → (Instr.index 235 (.agg formsC) (.int .i64 k)).run Tryz.prog w = .ok (vF (formT.getD k form0)) w
  | 0, _ => by kernel_rfl
  | 1, _ => by kernel_rfl
  | 2, _ => by kernel_rfl
  | 3, _ => by kernel_rfl
  | 4, _ => by kernel_rfl
  | 5, _ => by kernel_rfl
  | 6, _ => by kernel_rfl
  | 7, _ => by kernel_rfl
  | 8, _ => by kernel_rfl
  | 9, _ => by kernel_rfl
  | 10, _ => by kernel_rfl
  | 11, _ => by kernel_rfl
  | 12, _ => by kernel_rfl
  | 13, _ => by kernel_rfl
  | 14, _ => by kernel_rfl
  | 15, _ => by kernel_rfl
  | 16, _ => by kernel_rfl
  | 17, _ => by kernel_rfl
  | 18, _ => by kernel_rfl
  | 19, _ => by kernel_rfl
  | 20, _ => by kernel_rfl
  | 21, _ => by kernel_rfl
  | 22, _ => by kernel_rfl
  | 23, _ => by kernel_rfl
  | 24, _ => by kernel_rfl
  | 25, _ => by kernel_rfl
  | 26, _ => by kernel_rfl
  | 27, _ => by kernel_rfl
  | 28, _ => by kernel_rfl
  | 29, _ => by kernel_rfl
  | 30, _ => by kernel_rfl
  | 31, _ => by kernel_rfl
  | 32, _ => by kernel_rfl
  | 33, _ => by kernel_rfl
  | 34, _ => by kernel_rfl
  | n + 35, h => absurd h (by omega)
set_option maxRecDepth 100000 in
set_option maxHeartbeats 1000000 in
theorem formOf_any (op : Int) (w : World) : Calls Tryz.prog 139 #[.int .i64 op] w (RetB (.tuple #[vF (formL op), .bool (opOk op)]) w) := by
  cases ho : opOk op with
  | false =>
    have hf : formL op = form0 := by unfold formL; rw [ho]; rfl
    rw [hf]
    unfold opOk at ho
    by_cases h1 : 1 ≤ op
    · have h2 : 34 < op := by simp at ho; omega
      have d1 : decide (op < 1) = false := decide_eq_false (by omega)
      have d2 : decide (34 < op) = true := decide_eq_true h2
      clear ho hf
      go_enter Tryz.func139, Tryz.ntmps139
      go_wp2
      exact bodyPost_ret (v := .tuple #[vF form0, .bool false]) (results_row_tmp rfl _ _ w.heap.size 186 (cF form0) (0, 0) _ rfl (heapn _ _ _ rfl) Tryz.underlying186 rfl size119 _ rfl) rfl ⟨rfl, bnew _ _⟩
    · have d1 : decide (op < 1) = true := decide_eq_true (by omega)
      clear ho hf
      go_enter Tryz.func139, Tryz.ntmps139
      go_wp2
      exact bodyPost_ret (v := .tuple #[vF form0, .bool false]) (results_row_tmp rfl _ _ w.heap.size 186 (cF form0) (0, 0) _ rfl (heapn _ _ _ rfl) Tryz.underlying186 rfl size119 _ rfl) rfl ⟨rfl, bnew _ _⟩
  | true =>
    have hf : formL op = formT.getD op.toNat form0 := by unfold formL; rw [ho]; rfl
    rw [hf]
    have h : 1 ≤ op ∧ op ≤ 34 := by unfold opOk at ho; simpa using ho
    obtain ⟨k, rfl⟩ : ∃ k : Nat, op = (k : Int) := ⟨op.toNat, by omega⟩
    obtain ⟨h1, h2⟩ := h
    have hix := fun w => index134 w k (by omega)
    have n1 : ¬ (k : Int) < 1 := by omega
    have n2 : ¬ 34 < (k : Int) := by omega
    have d1 : decide ((k : Int) < 1) = false := decide_eq_false n1
    have d2 : decide (34 < (k : Int)) = false := decide_eq_false n2
    rw [show (k : Int).toNat = k from rfl]
    generalize formT.getD k form0 = f at *
    clear ho hf h1 h2
    go_enter Tryz.func139, Tryz.ntmps139
    go_wp2_with (first
      | (go_at_call 197; (with_reducible refine (forms_any _).mono ?_); rintro e w1 ⟨rfl, hb⟩; have HB := hid ((bnew w _).step hb); have HX := hid (keepBox hb (heapn w (.cells (cF form0) 186) _ rfl)); clear hb)
      | (refine wpList_store_row rfl 186 (.tmp 2) (.tmp 13) rfl w.heap.size (cF f) rfl rfl 186 _ HX.out size119 rfl (cF_one f) ?_))
    exact bodyPost_ret (v := .tuple #[vF f, .bool true]) (results_row_tmp rfl _ _ w.heap.size 186 (cF f) (0, 0) _ rfl (setRow_heap _ _ _ _ _ _ HX.out) Tryz.underlying186 rfl size119 _ rfl) rfl ⟨rfl, HB.out.trans ⟨rfl, rfl, rfl, by simp, fun k hk => setRow_other _ _ _ _ (by omega)⟩⟩
set_option maxHeartbeats 1000000 in
theorem g80 (g : GrdN) (n : Int) (p : Nat) (w : World) (hp : w.cell? ⟨p, 0, none⟩ = some (.int .i64 n)) (_hlt : p < w.heap.size) :
    Calls Tryz.prog 229 #[vG g, .pointer (some ⟨p, 0, none⟩)] w (RetB (.bool (guardIn n g)) w) := by
  have H : Hid (guardIn n g = (decide (g.frm ≤ n) && decide (n < g.til))) := hid rfl
  have hp1 := cell_later (bnew w (.cells #[.int .i64 g.frm, .int .i64 g.til, .int .i64 g.at'] 90)) hp
  have HB := hid (bnew w (.cells #[.int .i64 g.frm, .int .i64 g.til, .int .i64 g.at'] 90))
  clear hp
  generalize guardIn n g = r at *
  by_cases h1 : g.frm ≤ n
  · have d1 : decide (g.frm ≤ n) = true := decide_eq_true h1
    by_cases h2 : n < g.til
    · have d2 : decide (n < g.til) = true := decide_eq_true h2
      rw [d1, d2] at H
      go_enter Tryz.func229, Tryz.ntmps229
      go_wp2
      go_ret
      exact ⟨ret_bool (by rw [H.out]; rfl), HB.out⟩
    · have d2 : decide (n < g.til) = false := decide_eq_false h2
      rw [d1, d2] at H
      go_enter Tryz.func229, Tryz.ntmps229
      go_wp2
      go_ret
      exact ⟨ret_bool (by rw [H.out]; rfl), HB.out⟩
  · have d1 : decide (g.frm ≤ n) = false := decide_eq_false h1
    rw [d1] at H
    go_enter Tryz.func229, Tryz.ntmps229
    go_wp2
    go_ret
    exact ⟨ret_bool (by rw [H.out]; rfl), HB.out⟩
set_option maxHeartbeats 1000000 in
theorem index80 (n : Int) (p : Nat) (l : List GrdN) (a : Option Addr) (cap : Nat) (w : World) (hl : RdD w a l) (hll : l.length ≤ 9223372036854775807) (hp : w.cell? ⟨p, 0, none⟩ = some (.int .i64 n)) (hlt : p < w.heap.size) :
    Calls Tryz.prog 172 #[.slice a l.length cap, .func (.func 229) #[] #[.pointer (some ⟨p, 0, none⟩)]] w (RetB (.int .i64 (idxP (guardIn n) l)) w) := by
  have HL := hid hl; clear hl
  have HP := hid hp; clear hp
  have HLT := hid hlt; clear hlt
  go_enter Tryz.func172, Tryz.ntmps172
  go_wp2
  go_loopg [8] l.length (fun gh s8 wr => ∃ j : Nat, j ≤ l.length ∧ gh = l.length - j ∧ s8 = .int .i64 j ∧ Hid (∀ x, x ∈ l.take j → guardIn n x = false) ∧ Hid (Below w.heap.size w wr))
  case atStart => exact ⟨0, Nat.zero_le _, rfl, rfl, hid (by simp), hid (Below.refl _ _)⟩
  case round =>
    obtain ⟨j, hj, rfl, rfl, HQ, HB⟩ := hrel
    by_cases hlj : j < l.length
    · obtain ⟨b2, off, ha, hlt2, h0, h1, h2⟩ := (HL.out.below HB.out) j hlj
      subst ha
      have HK := hid (fun g => g80 g n p wr (cell_later HB.out HP.out) (Nat.lt_of_lt_of_le HLT.out HB.out.size))
      have nj : (j : Int) < (l.length : Int) := by omega
      have HG := hid (idxP_some (p := guardIn n) (l := l) (i := j) hlj)
      have HT : Hid (l.take (j + 1) = l.take j ++ [l[j]]) := hid (take_last hlj)
      generalize l[j] = g at *
      cases hg : guardIn n g with
      | true =>
        have HKG := hid (HK.out g)
        rw [hg] at HKG
        have HE := hid (HG.out hg HQ.out)
        clear hg
        go_wp2_with (go_at_call 229; (with_reducible refine HKG.out.mono ?_); rintro e w' ⟨rfl, hb⟩; have HB2 := hid (HB.out.step hb); clear hb)
        go_ret
        exact ⟨ret_int HE.out.symm, HB2.out⟩
      | false =>
        have HKG := hid (HK.out g)
        rw [hg] at HKG
        have HGF := hid hg
        clear hg
        go_wp2_with (go_at_call 229; (with_reducible refine HKG.out.mono ?_); rintro e w' ⟨rfl, hb⟩; have HB2 := hid (HB.out.step hb); clear hb)
        go_roundg (l.length - (j + 1))
        case measure => omega
        case rel =>
          refine ⟨j + 1, by omega, rfl, by go_num, hid fun x hx => ?_, HB2⟩
          rw [HT.out, List.mem_append] at hx
          rcases hx with hx | hx
          · exact HQ.out x hx
          · rw [List.mem_singleton.1 hx]; exact HGF.out
    · obtain rfl : j = l.length := by omega
      have HE := hid (idxP_none (p := guardIn n) (fun x hx => HQ.out x (by rw [List.take_length]; exact hx)))
      go_wp2
      go_ret
      exact ⟨ret_int HE.out.symm, HB.out⟩
set_option maxHeartbeats 1000000 in
theorem guardOf_any (u : UntN) (n : Int) (ca : Option Addr) (cc : Nat) (ga : Option Addr) (gc : Nat) (w : World) (hg : RdD w ga u.guards) (hlg : u.guards.length ≤ 9223372036854775807) :
    Calls Tryz.prog 210 #[vU u ca cc ga gc, .int .i64 n] w (RetB (.int .i64 (guardL u n)) w) := by
  have HB := hid ((bnew w (.cells #[.string u.cls, .string u.name, .int .i64 u.args, .int .i64 u.slots, .int .i64 u.frame, .slice ca u.code.length cc, .slice ga u.guards.length gc] 25)).step (bnew _ (.cells #[.int .i64 n] 3)))
  have HI := hid (index80 n (w.heap.size + 1) u.guards ga gc _ (hg.below HB.out) hlg (by have := cell0_alloc (w.alloc (.cells #[.string u.cls, .string u.name, .int .i64 u.args, .int .i64 u.slots, .int .i64 u.frame, .slice ca u.code.length cc, .slice ga u.guards.length gc] 25)) (.int .i64 n) 3; rw [World.size_alloc] at this; exact this) (by simp))
  clear hg
  go_enter Tryz.func210, Tryz.ntmps210
  go_wp2_with (go_at_call 172; refine HI.out.mono ?_; rintro e w' ⟨rfl, hb⟩; have HB2 := hid (HB.out.step hb); clear hb)
  go_ret
  exact ⟨rfl, HB2.out⟩
theorem idx116_0 (x y z : Int) (w : World) : (Instr.index 167 (.agg #[.int .i64 x, .int .i64 y, .int .i64 z]) (.int .i64 0)).run Tryz.prog w = .ok (.int .i64 x) w := by kernel_rfl
theorem idx116_1 (x y z : Int) (w : World) : (Instr.index 167 (.agg #[.int .i64 x, .int .i64 y, .int .i64 z]) (.int .i64 1)).run Tryz.prog w = .ok (.int .i64 y) w := by kernel_rfl
theorem idx116_2 (x y z : Int) (w : World) : (Instr.index 167 (.agg #[.int .i64 x, .int .i64 y, .int .i64 z]) (.int .i64 2)).run Tryz.prog w = .ok (.int .i64 z) w := by kernel_rfl
theorem parts_any (i : InsN) (w : World) : Calls Tryz.prog 140 #[vI i] w (RetB (.agg #[.int .i64 i.a, .int .i64 i.b, .int .i64 i.c]) w) := by
  go_enter Tryz.func140, Tryz.ntmps140
  go_wp2
  refine bodyPost_ret (v := .agg #[.int .i64 i.a, .int .i64 i.b, .int .i64 i.c]) (by simp [results, Tryz.results140, go_sem]) rfl ⟨rfl, ?_⟩
  exact (bnew _ _).step (bnew _ _)
def placesU (f : FormN) (i : InsN) (k : Nat) : List Int := ((List.range k).filter fun j => hasN f j == 3).map (partN i)
theorem placesU_succ (f : FormN) (i : InsN) (k : Nat) : placesU f i (k + 1) = if hasN f k = 3 then placesU f i k ++ [partN i k] else placesU f i k := by
  unfold placesU
  rw [List.range_succ, List.filter_append, List.map_append]
  by_cases h : hasN f k = 3
  · rw [if_pos h, show [k].filter (fun j => hasN f j == 3) = [k] from List.filter_cons_of_pos (by simp [h])]
    rfl
  · rw [if_neg h, show [k].filter (fun j => hasN f j == 3) = [] from List.filter_cons_of_neg (by simp [h])]
    simp
theorem placesU_length (f : FormN) (i : InsN) (k : Nat) : (placesU f i k).length ≤ k := by
  unfold placesU
  rw [List.length_map]
  have := List.length_filter_le (fun j => hasN f j == 3) (List.range k)
  rwa [List.length_range] at this
set_option maxRecDepth 100000 in
set_option maxHeartbeats 4000000 in
theorem places_any (i : InsN) (w : World) : Calls Tryz.prog 209 #[vI i] w (OwnRet (placesL i) w) := by
  have HF := hid (formOf_any i.op)
  have HPL : Hid (placesL i = placesU (formL i.op) i 3) := hid rfl
  have HPA := hid (fun w => parts_any i w)
  generalize formL i.op = f at *
  generalize opOk i.op = ok at *
  have hx0 := idx116_0 f.h0 f.h1 f.h2
  have hx1 := idx116_1 f.h0 f.h1 f.h2
  have hx2 := idx116_2 f.h0 f.h1 f.h2
  have hy0 := idx116_0 i.a i.b i.c
  have hy1 := idx116_1 i.a i.b i.c
  have hy2 := idx116_2 i.a i.b i.c
  have HX1 := hid (heapn w (.cells #[.int .i64 i.op, .int .i64 i.a, .int .i64 i.b, .int .i64 i.c] 85) _ rfl)
  have HB := hid (bnew w (.cells #[.int .i64 i.op, .int .i64 i.a, .int .i64 i.b, .int .i64 i.c] 85))
  go_enter Tryz.func209, Tryz.ntmps209
  go_upto_region 4 with (go_at_call 139; (with_reducible refine (HF.out _).mono ?_); rintro e w1 ⟨rfl, hb⟩; replace HX1 := hid (keepBox (hb.step (bnew w1 (.cells (cF f) 186))) HX1.out); replace HB := hid (HB.out.step (hb.step (bnew w1 (.cells (cF f) 186)))); clear hb)
  obtain ⟨w2, hw2⟩ : ∃ w2, w2 = w1.alloc (.cells (cF f) 186) := ⟨_, rfl⟩
  have e2 : w1.alloc (.cells #[.string ⟨f.name⟩, .int .i64 f.h0, .int .i64 f.h1, .int .i64 f.h2, .int .i64 f.wr, .int .i64 f.r0, .int .i64 f.r1, .bool f.rs, .bool f.en] 186) = w2 := hw2.symm
  rw [e2] at HX1 HB
  rw [e2]
  clear e2 hw2
  go_loopg [5, 16] 3 (fun gh s5 s16 wr => ∃ k : Nat, k ≤ 3 ∧ gh = 3 - k ∧ s16 = .int .i64 k ∧ Hid (OwnI wr w2.heap.size s5 (placesU f i k) ∧ Below w2.heap.size w2 wr))
  case atStart => exact ⟨0, Nat.zero_le _, rfl, rfl, hid ⟨World.ownsRow_nil _ _ _ _, Below.refl _ _⟩⟩
  case round =>
    obtain ⟨k, hk, rfl, rfl, HK⟩ := hrel
    have hlen := placesU_length f i k
    have hsz := HK.out.2.size
    obtain ⟨k0, k1, k2, k3⟩ := box4 (keepBox HK.out.2 HX1.out)
    by_cases hlt : k < 3
    · rcases (show k = 0 ∨ k = 1 ∨ k = 2 by omega) with rfl | rfl | rfl
      · have hs := hid (show placesU f i (0 + 1) = if f.h0 = 3 then placesU f i 0 ++ [i.a] else placesU f i 0 from placesU_succ f i 0)
        rw [show ((0 : Nat) : Int) = 0 from rfl]
        by_cases hh : f.h0 = 3
        · have d : (f.h0 == 3) = true := by rw [hh]; rfl
          have HE := hid (hs.out.trans (if_pos hh))
          clear hh hs
          go_wp2_with (first
            | (go_at_call 140; (with_reducible refine (HPA.out _).mono ?_); rintro e w4 ⟨rfl, hb4⟩; have HB4 := hid hb4; have hsz4 := hb4.size; clear hb4)
            | (at_builtin; refine wpList_append_ints _ rfl _ _ rfl w2.heap.size _ _ [i.a] rfl (OwnI.later HK.out.1 (HB4.out.step (bnew _ _))) (some ⟨w4.heap.size, 0, none⟩) 1 rfl (rd_one _ _ _) (by simp; omega) (by simp; omega) ?_; intro v' w5 hown' hgrow hnil))
          go_roundg (3 - (0 + 1))
          case measure => omega
          case rel => exact ⟨0 + 1, by omega, rfl, rfl, hid ⟨by rw [HE.out]; exact hown', (((HK.out.2.step HB4.out)).alloc (by omega) _).grown hgrow (by simp; omega) (own_ge HK.out.1)⟩⟩
        · have d : (f.h0 == 3) = false := by rw [beq_eq_false_iff_ne]; exact hh
          have HE := hid (hs.out.trans (if_neg hh))
          clear hh hs
          go_wp2_with fail
          go_roundg (3 - (0 + 1))
          case measure => omega
          case rel => exact ⟨0 + 1, by omega, rfl, rfl, hid ⟨by rw [HE.out]; exact HK.out.1, HK.out.2⟩⟩
      · have hs := hid (show placesU f i (1 + 1) = if f.h1 = 3 then placesU f i 1 ++ [i.b] else placesU f i 1 from placesU_succ f i 1)
        rw [show ((1 : Nat) : Int) = 1 from rfl]
        by_cases hh : f.h1 = 3
        · have d : (f.h1 == 3) = true := by rw [hh]; rfl
          have HE := hid (hs.out.trans (if_pos hh))
          clear hh hs
          go_wp2_with (first
            | (go_at_call 140; (with_reducible refine (HPA.out _).mono ?_); rintro e w4 ⟨rfl, hb4⟩; have HB4 := hid hb4; have hsz4 := hb4.size; clear hb4)
            | (at_builtin; refine wpList_append_ints _ rfl _ _ rfl w2.heap.size _ _ [i.b] rfl (OwnI.later HK.out.1 (HB4.out.step (bnew _ _))) (some ⟨w4.heap.size, 0, none⟩) 1 rfl (rd_one _ _ _) (by simp; omega) (by simp; omega) ?_; intro v' w5 hown' hgrow hnil))
          go_roundg (3 - (1 + 1))
          case measure => omega
          case rel => exact ⟨1 + 1, by omega, rfl, rfl, hid ⟨by rw [HE.out]; exact hown', (((HK.out.2.step HB4.out)).alloc (by omega) _).grown hgrow (by simp; omega) (own_ge HK.out.1)⟩⟩
        · have d : (f.h1 == 3) = false := by rw [beq_eq_false_iff_ne]; exact hh
          have HE := hid (hs.out.trans (if_neg hh))
          clear hh hs
          go_wp2_with fail
          go_roundg (3 - (1 + 1))
          case measure => omega
          case rel => exact ⟨1 + 1, by omega, rfl, rfl, hid ⟨by rw [HE.out]; exact HK.out.1, HK.out.2⟩⟩
      · have hs := hid (show placesU f i (2 + 1) = if f.h2 = 3 then placesU f i 2 ++ [i.c] else placesU f i 2 from placesU_succ f i 2)
        rw [show ((2 : Nat) : Int) = 2 from rfl]
        by_cases hh : f.h2 = 3
        · have d : (f.h2 == 3) = true := by rw [hh]; rfl
          have HE := hid (hs.out.trans (if_pos hh))
          clear hh hs
          go_wp2_with (first
            | (go_at_call 140; (with_reducible refine (HPA.out _).mono ?_); rintro e w4 ⟨rfl, hb4⟩; have HB4 := hid hb4; have hsz4 := hb4.size; clear hb4)
            | (at_builtin; refine wpList_append_ints _ rfl _ _ rfl w2.heap.size _ _ [i.c] rfl (OwnI.later HK.out.1 (HB4.out.step (bnew _ _))) (some ⟨w4.heap.size, 0, none⟩) 1 rfl (rd_one _ _ _) (by simp; omega) (by simp; omega) ?_; intro v' w5 hown' hgrow hnil))
          go_roundg (3 - (2 + 1))
          case measure => omega
          case rel => exact ⟨2 + 1, by omega, rfl, rfl, hid ⟨by rw [HE.out]; exact hown', (((HK.out.2.step HB4.out)).alloc (by omega) _).grown hgrow (by simp; omega) (own_ge HK.out.1)⟩⟩
        · have d : (f.h2 == 3) = false := by rw [beq_eq_false_iff_ne]; exact hh
          have HE := hid (hs.out.trans (if_neg hh))
          clear hh hs
          go_wp2_with fail
          go_roundg (3 - (2 + 1))
          case measure => omega
          case rel => exact ⟨2 + 1, by omega, rfl, rfl, hid ⟨by rw [HE.out]; exact HK.out.1, HK.out.2⟩⟩
    · obtain rfl : k = 3 := by omega
      go_wp2_with fail
      go_ret
      exact ⟨HB.out.step HK.out.2, _, rfl, by rw [HPL.out]; exact HK.out.1.mono HB.out.size⟩
end Go.Proofs.YtgalekifgnecjaaGreat
