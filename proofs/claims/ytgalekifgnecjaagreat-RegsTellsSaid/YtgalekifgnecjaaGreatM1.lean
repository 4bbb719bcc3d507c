/- Sets of slots: maps from numbers to truths. -/
import Derived.Test.YtgalekifgnecjaaGreatV1
import Derived.Test.YtgalekifgnecjaaGreatB1
import Derived.Maps.OwnIn
import Derived.Maps.RangeWalk
import Derived.Laws.IdiomRangeMap
import Derived.RangeFuncWrites
namespace Go.Proofs.YtgalekifgnecjaaGreat
open Go.RowKit
open Go.Maps (Keyed int_keyed keyOf_int_mk keyOf_int_inv)
attribute [local go_sem] Oper.semAt_some

/-! ### sorted lists -/
abbrev SortedL (l : List Int) : Prop := l.Pairwise (· < ·)
theorem mem_insS {a x : Int} : ∀ {l : List Int}, x ∈ insS a l ↔ x = a ∨ x ∈ l
  | [] => by simp [insS]
  | y :: l => by
    unfold insS
    split
    · simp
    · split
      · rename_i h
        subst h
        simp
      · simp only [List.mem_cons, mem_insS (l := l)]
        constructor
        · rintro (h | h | h)
          · exact .inr (.inl h)
          · exact .inl h
          · exact .inr (.inr h)
        · rintro (h | h | h)
          · exact .inr (.inl h)
          · exact .inl h
          · exact .inr (.inr h)
theorem sorted_insS {a : Int} : ∀ {l : List Int}, SortedL l → SortedL (insS a l)
  | [], _ => by simp [insS, SortedL]
  | y :: l, h => by
    obtain ⟨h1, h2⟩ := List.pairwise_cons.1 h
    unfold insS
    split
    · rename_i hlt
      refine List.pairwise_cons.2 ⟨fun z hz => ?_, h⟩
      rcases List.mem_cons.1 hz with rfl | hz
      · exact hlt
      · have := h1 z hz
        omega
    · split
      · exact h
      · refine List.pairwise_cons.2 ⟨fun z hz => ?_, sorted_insS h2⟩
        rcases mem_insS.1 hz with rfl | hz
        · omega
        · exact h1 z hz
theorem sorted_ext : ∀ {l m : List Int}, SortedL l → SortedL m → (∀ x, x ∈ l ↔ x ∈ m) → l = m
  | [], [], _, _, _ => rfl
  | [], y :: m, _, _, h => absurd ((h y).2 (by simp)) (by simp)
  | x :: l, [], _, _, h => absurd ((h x).1 (by simp)) (by simp)
  | x :: l, y :: m, hl, hm, h => by
    obtain ⟨h1, h2⟩ := List.pairwise_cons.1 hl
    obtain ⟨h3, h4⟩ := List.pairwise_cons.1 hm
    have hxy : x = y := by
      rcases List.mem_cons.1 ((h x).1 (by simp)) with e | e
      · exact e
      · rcases List.mem_cons.1 ((h y).2 (by simp)) with e' | e'
        · exact e'.symm
        · have := h1 y e'
          have := h3 x e
          omega
    subst hxy
    congr 1
    refine sorted_ext h2 h4 fun z => ⟨fun hz => ?_, fun hz => ?_⟩
    · rcases List.mem_cons.1 ((h z).1 (by simp [hz])) with e | e
      · have := h1 z hz
        omega
      · exact e
    · rcases List.mem_cons.1 ((h z).2 (by simp [hz])) with e | e
      · have := h3 z hz
        omega
      · exact e
theorem mem_foldIns {x : Int} : ∀ {l s : List Int}, x ∈ l.foldl (fun s n => insS n s) s ↔ x ∈ s ∨ x ∈ l
  | [], s => by simp
  | y :: l, s => by
    rw [List.foldl_cons, mem_foldIns, mem_insS, List.mem_cons]
    constructor
    · rintro ((h | h) | h)
      · exact .inr (.inl h)
      · exact .inl h
      · exact .inr (.inr h)
    · rintro (h | h | h)
      · exact .inl (.inr h)
      · exact .inl (.inl h)
      · exact .inr h
theorem sorted_foldIns : ∀ {l s : List Int}, SortedL s → SortedL (l.foldl (fun s n => insS n s) s)
  | [], _, h => h
  | _ :: l, _, h => sorted_foldIns (l := l) (sorted_insS h)
/-- Numbers in order that are from 0 on and less than n: at most n. -/
theorem sorted_len : ∀ {l : List Int} {a n : Int}, SortedL l → (∀ x ∈ l, a ≤ x ∧ x < n) → l.length ≤ (n - a).toNat
  | [], _, _, _, _ => by simp
  | x :: l, a, n, h, hx => by
    obtain ⟨h1, h2⟩ := List.pairwise_cons.1 h
    have h3 := hx x (by simp)
    have := sorted_len (l := l) (a := x + 1) (n := n) h2 (fun y hy => ⟨by have := h1 y hy; omega, (hx y (by simp [hy])).2⟩)
    simp only [List.length_cons]
    omega

/-! ### the datum -/
def setE (x : Int) : Lit × DataW Unit := (.int .i64 x, .lit (.bool true))
def setD (l : List Int) : DataW Unit := .map (l.map setE)
theorem setE_keep {x : Int} : ∀ {l : List Int}, (∀ y ∈ l, y ≠ x) → ((l.map setE).filter fun p => !p.1.sameKey (.int .i64 x)) = l.map setE
  | [], _ => rfl
  | y :: l, h => by
    have h1 : (y == x) = false := by simpa using h y (by simp)
    rw [List.map_cons, List.filter_cons, setE_keep (l := l) fun z hz => h z (by simp [hz])]
    have : (setE y).1.sameKey (.int .i64 x) = false := by simp [setE, Lit.sameKey]; simpa using h1
    simp [this]
theorem setE_put {x : Int} : ∀ {l : List Int}, SortedL l → DataW.insert (.int .i64 x, .lit (.bool true)) ((l.map setE).filter fun p => !p.1.sameKey (.int .i64 x)) = (insS x l).map setE
  | [], _ => rfl
  | y :: l, h => by
    obtain ⟨h1, h2⟩ := List.pairwise_cons.1 h
    unfold insS
    by_cases hlt : x < y
    · rw [if_pos hlt, setE_keep (l := y :: l) fun z hz => by
        rcases List.mem_cons.1 hz with rfl | hz
        · omega
        · have := h1 z hz
          omega]
      simp [DataW.insert, setE, Lit.before, hlt]
    · rw [if_neg hlt]
      by_cases heq : x = y
      · subst heq
        rw [if_pos rfl, List.map_cons, List.filter_cons, setE_keep (l := l) fun z hz => by have := h1 z hz; omega]
        have : (setE x).1.sameKey (.int .i64 x) = true := by simp [setE, Lit.sameKey]
        simp only [this, Bool.not_true, Bool.false_eq_true, if_false]
        cases l with
        | nil => rfl
        | cons z l =>
          have := h1 z (by simp)
          simp [DataW.insert, setE, Lit.before, this]
      · rw [if_neg heq, List.map_cons, List.filter_cons]
        have e1 : (setE y).1.sameKey (.int .i64 x) = false := by simp [setE, Lit.sameKey]; omega
        have e2 : (Lit.int .i64 x).before (setE y).1 = false := by simp [setE, Lit.before]; omega
        simp only [e1, Bool.not_false, if_true]
        rw [DataW.insert]
        simp only [e2, Bool.false_eq_true, if_false]
        rw [setE_put h2, List.map_cons]
theorem setD_put {x : Int} {l : List Int} (h : SortedL l) : (setD l).put (.int .i64 x) (.lit (.bool true)) = setD (insS x l) := by
  unfold setD DataW.put
  simp only
  rw [setE_put h]
theorem setD_size (l : List Int) : Maps.size (setD l) = l.length := by simp [setD, Maps.size]
theorem setD_at (x : Int) (z : DataW Unit) : ∀ (l : List Int), (setD l).atKey (.int .i64 x) z = if x ∈ l then .lit (.bool true) else z
  | [] => by simp [setD, DataW.atKey]
  | y :: l => by
    have ih := setD_at x z l
    unfold setD DataW.atKey at *
    simp only [List.map_cons, List.find?_cons] at *
    by_cases h : y = x
    · subst h
      simp [setE, Lit.sameKey]
    · have : (setE y).1.sameKey (.int .i64 x) = false := by simp [setE, Lit.sameKey, h]
      simp only [this]
      rw [ih]
      simp [show ¬ x = y from fun e => h e.symm]

/-! ### in memory -/
section
variable {w w' : World} {b r : Nat} {S L : List Int} {v : Value}
theorem keyed3 : Keyed Tryz.prog 3 := int_keyed Tryz.underlying3
theorem wf64 {x : Int} (h : 0 ≤ x ∧ x ≤ 1000000) : (Lit.int .i64 x).wf = true := by
  have h1 : IntKind.i64.min = -9223372036854775808 := by decide
  have h2 : IntKind.i64.max = 9223372036854775807 := by decide
  simp only [Lit.wf, h1, h2, Bool.and_eq_true, decide_eq_true_eq]
  omega
theorem key3 {x : Int} (h : 0 ≤ x ∧ x ≤ 1000000) : keyOf Tryz.prog 3 (.int .i64 x) = some (.int .i64 x) := keyOf_int_mk Tryz.underlying3 (wf64 h)
theorem elem4 (x : Bool) : plainElem (H := Unit) Tryz.prog 4 (.bool x) = some (.lit (.bool x), []) := plainElem_bool Tryz.underlying4 x
theorem elem4_inv {v : Value} {z : DataW Unit × List MemPlace} (h : plainElem Tryz.prog 4 v = some z) : ∃ c, v = .bool c ∧ z = (.lit (.bool c), []) := by
  unfold plainElem at h
  have hu := Tryz.underlying4
  split at h
  · cases h
    exact ⟨_, rfl, rfl⟩
  · rename_i hq
    rw [hu] at hq
    cases hq
  · rename_i hq
    rw [hu] at hq
    cases hq
  · cases h
/-- Block b is the set S. -/
structure SetAt (w : World) (b : Nat) (S : List Int) : Prop where
  so : SortedL S
  bd : ∀ x ∈ S, 0 ≤ x ∧ x < 1000000
  own : w.ownsMap Tryz.prog 3 (plainElem Tryz.prog 4) b S.length (setD S)
theorem own_len {w : World} {b n : Nat} {S : List Int} (h : w.ownsMap Tryz.prog 3 (plainElem (H := Unit) Tryz.prog 4) b n (setD S)) : w.ownsMap Tryz.prog 3 (plainElem (H := Unit) Tryz.prog 4) b S.length (setD S) := by
  obtain ⟨es, clock, hb, F, _, hD⟩ := h
  refine ⟨es, clock, hb, F, ?_, hD⟩
  have h1 : S.length = es.size := by
    have h2 := congrArg Maps.size hD
    rw [setD_size] at h2
    rw [h2]
    simp [Maps.size, length_sorted]
  omega
theorem SetAt.len (h : SetAt w b S) : S.length ≤ 1000000 := by
  have := sorted_len (a := 0) (n := 1000000) h.so h.bd
  omega
theorem SetAt.lt (h : SetAt w b S) : b < w.heap.size := h.own.lt
theorem SetAt.kept {row : Option Nat} (h : SetAt w b S) (hg : w.grownBy w' row) (hn : some b ≠ row) : SetAt w' b S := ⟨h.so, h.bd, h.own.kept hg hn⟩
theorem SetAt.keep (h : SetAt w b S) (e : w'.heap[b]? = w.heap[b]?) : SetAt w' b S := by
  obtain ⟨es, clock, hb, r⟩ := h.own
  exact ⟨h.so, h.bd, es, clock, e.trans hb, r⟩
theorem SetAt.below (h : SetAt w b S) (hb : Below w.heap.size w w') : SetAt w' b S := h.keep (hb.block b h.lt)
theorem setAt_made (w : World) : SetAt (w.alloc (.map #[] 0)) w.heap.size [] := ⟨.nil, by simp, World.ownsMap_made w _ _ _⟩
/-- A map value that is a set; the nil map is the empty one. -/
def SetV (w : World) (v : Value) (S : List Int) : Prop := (v = .map none ∧ S = []) ∨ ∃ b, v = .map (some b) ∧ SetAt w b S
theorem SetV.below (h : SetV w v S) (hb : Below w.heap.size w w') : SetV w' v S := by
  rcases h with h | ⟨b, e, h⟩
  · exact .inl h
  · exact .inr ⟨b, e, h.below hb⟩
theorem SetV.so (h : SetV w v S) : SortedL S := by
  rcases h with ⟨_, rfl⟩ | ⟨b, e, h⟩
  · exact .nil
  · exact h.so
theorem SetV.bd (h : SetV w v S) : ∀ x ∈ S, 0 ≤ x ∧ x < 1000000 := by
  rcases h with ⟨_, rfl⟩ | ⟨b, e, h⟩
  · simp
  · exact h.bd
/-- A range over the set S; those of L are still to come. -/
def RngV (w : World) (r : Nat) (v : Value) (S L : List Int) : Prop :=
  (v = .map none ∧ S = [] ∧ L = [] ∧ ∃ q c seen, w.heap[r]? = some (.mapIter none q seen c)) ∨
  ∃ b left cnt, v = .map (some b) ∧ SetAt w b S ∧ w.ranges Tryz.prog 3 (plainElem (H := Unit) Tryz.prog 4) b r S.length (setD S) left cnt ∧ L = S.filter (fun x => left (.int .i64 x))
theorem RngV.sub (h : RngV w r v S L) : ∀ x ∈ L, x ∈ S := by
  rcases h with ⟨_, rfl, rfl, _⟩ | ⟨b, left, cnt, _, _, _, rfl⟩
  · simp
  · intro x hx
    exact (List.mem_filter.1 hx).1
theorem RngV.lt (h : RngV w r v S L) : r < w.heap.size := by
  rcases h with ⟨_, _, _, q, c, seen, h⟩ | ⟨b, left, cnt, _, _, h, _⟩
  · exact (Array.getElem?_eq_some_iff.1 h).1
  · exact h.lt
/-- The blocks of a range stay. -/
theorem RngV.kept {row : Option Nat} (h : RngV w r v S L) (hg : w.grownBy w' row) (hr : some r ≠ row) (hv : ∀ b, v = .map (some b) → some b ≠ row) : RngV w' r v S L := by
  have hl := h.lt
  rcases h with ⟨e, e1, e2, q, c, seen, h⟩ | ⟨b, left, cnt, e, hs, h, e2⟩
  · exact .inl ⟨e, e1, e2, q, c, seen, (hg.block r hl hr).trans h⟩
  · exact .inr ⟨b, left, cnt, e, hs.kept hg (hv b e), h.kept hg (hv b e) hr, e2⟩
theorem RngV.below (h : RngV w r v S L) (hb : Below w.heap.size w w') : RngV w' r v S L :=
  h.kept (row := none) ⟨hb.os, hb.tape, hb.output, hb.size, fun k hk _ => hb.block k hk⟩ (by simp) (by simp)
theorem run_next_nil {w : World} {r q c : Nat} {seen : Array Nat} (ty : TypeId) (h : w.heap[r]? = some (.mapIter none q seen c)) : (Instr.next (.pointer (some ⟨r, 0, none⟩)) false ty).run Tryz.prog w = .ok (.tuple #[.bool false]) w := by
  simp only [Instr.next, getObj, Sem.run_bind, Sem.run, h, Result.andThen]
  rfl
/-- 'range' over a set. -/
theorem SetV.range (h : SetV w v S) : ∃ w', (Instr.range 217 v).run Tryz.prog w = .ok (.pointer (some ⟨w.heap.size, 0, none⟩)) w' ∧ RngV w' w.heap.size v S S ∧ w.grownBy w' none ∧ w'.heap.size = w.heap.size + 1 := by
  rcases h with ⟨rfl, rfl⟩ | ⟨b, rfl, h⟩
  · exact ⟨_, run_range_nilMap w 217 3 4 Tryz.underlying217, .inl ⟨rfl, rfl, rfl, 0, 0, #[], heapn _ _ _ rfl⟩, World.grownBy_alloc w _ none, by simp⟩
  · obtain ⟨w', h1, h2, h3, h4⟩ := h.own.range keyed3 Tryz.underlying217
    refine ⟨w', h1, .inr ⟨b, _, _, rfl, h.kept h3 (by simp), h2, ?_⟩, h3, h4⟩
    refine (List.filter_eq_self.2 fun x hx => ?_).symm
    unfold setD Maps.has
    exact List.any_eq_true.2 ⟨setE x, List.mem_map.2 ⟨x, hx, rfl⟩, by simp [setE, Lit.sameKey]⟩
/-- The step. -/
theorem RngV.next (h : RngV w r v S L) (ty : TypeId) : (L = [] ∧ (Instr.next (.pointer (some ⟨r, 0, none⟩)) false ty).run Tryz.prog w = .ok (.tuple #[.bool false]) w) ∨
    ∃ x w', x ∈ L ∧ (Instr.next (.pointer (some ⟨r, 0, none⟩)) false ty).run Tryz.prog w = .ok (.tuple #[.bool true, .int .i64 x, .bool true]) w' ∧ RngV w' r v S (L.filter (· != x)) ∧ w.grownBy w' (some r) ∧ w'.heap.size = w.heap.size ∧
      (Instr.entry (.pointer (some ⟨r, 0, none⟩))).run Tryz.prog w' = .ok (.tuple #[.int .i64 x, .bool true]) w' := by
  rcases h with ⟨rfl, rfl, rfl, q, c, seen, h⟩ | ⟨b, left, cnt, rfl, hs, h, rfl⟩
  · exact .inl ⟨rfl, run_next_nil ty h⟩
  · rcases h.next keyed3 ty with ⟨_, hl, hrun⟩ | ⟨key, u, kl, y, w', cnt', hkey, hlk, hv, hat, hrun, hrg, _, hgr, hsz, hen⟩
    · exact .inl ⟨List.filter_eq_nil_iff.2 fun x _ => by simp [hl], hrun⟩
    · obtain ⟨x, rfl, rfl, _⟩ := keyOf_int_inv Tryz.underlying3 hkey
      obtain ⟨c, rfl, rfl⟩ := elem4_inv hv
      have hx : x ∈ S := by
        refine Decidable.byContradiction fun hx => ?_
        have h1 := hat (.lit (.bool true))
        have h2 := hat (.lit (.bool false))
        rw [setD_at, if_neg hx] at h1 h2
        rw [← h1] at h2
        cases h2
      have hc : c = true := by
        have h1 := hat (.lit (.bool true))
        rw [setD_at, if_pos hx] at h1
        cases h1
        rfl
      subst hc
      refine .inr ⟨x, w', List.mem_filter.2 ⟨hx, hlk⟩, hrun, .inr ⟨b, _, _, rfl, hs.kept hgr (fun e => by cases e; exact h.ne rfl), hrg, ?_⟩, hgr, hsz, hen⟩
      rw [List.filter_filter]
      refine List.filter_congr fun z _ => ?_
      by_cases hz : z = x
      · subst hz; simp [Lit.sameKey]
      · simp [Lit.sameKey, hz]
end

/-! ### at the operations -/
theorem KeepsFrom.step {B : Nat} {W A C : World} {r : Nat} (h : KeepsFrom B W A) (hg : A.grownBy C (some r)) (hr : W.heap.size ≤ r ∨ r < B) : KeepsFrom B W C := by
  refine ⟨Nat.le_trans h.size hg.size, fun k o hB hk ho => ?_⟩
  have h1 := h.same k o hB hk ho
  have h2 := lt_of_heap hk
  exact (hg.block k (lt_of_heap h1) (fun e => by cases e; omega)).trans h1
theorem SetAt.put {w : World} {b : Nat} {S : List Int} {k : Int} (h : SetAt w b S) (hk : 0 ≤ k ∧ k < 1000000) :
    ∃ w', (Instr.mapUpdate 217 (.map (some b)) (.int .i64 k) (.bool true)).run Tryz.prog w = .ok () w' ∧ SetAt w' b (insS k S) ∧ w.grownBy w' (some b) := by
  have hl := h.len
  obtain ⟨w', h1, h2, h3⟩ := h.own.update keyed3 Tryz.underlying217 (by unfold maxLen; omega) (key3 ⟨hk.1, by omega⟩) (elem4 true)
  rw [setD_put h.so] at h2
  exact ⟨w', h1, ⟨sorted_insS h.so, fun x hx => by rcases mem_insS.1 hx with rfl | hx; exact hk; exact h.bd x hx, own_len h2⟩, h3⟩
theorem SetAt.has {w : World} {b : Nat} {S : List Int} {k : Int} (h : SetAt w b S) (hk : 0 ≤ k ∧ k ≤ 1000000) :
    (Instr.lookup 217 (.map (some b)) (.int .i64 k) false).run Tryz.prog w = .ok (.bool (S.contains k)) w := by
  have hz : (zeroValue 4).run Tryz.prog w = .ok (.bool false) w := by
    simp [zeroValue, go_sem]
    rfl
  obtain ⟨v, ps, h1, h2⟩ := h.own.lookup keyed3 Tryz.underlying217 hz (elem4 false) (key3 hk)
  obtain ⟨c, rfl, h3⟩ := elem4_inv h2
  rw [setD_at] at h3
  rw [h1]
  by_cases hx : k ∈ S
  · rw [if_pos hx] at h3
    cases h3
    rw [List.contains_iff_mem.2 hx]
  · rw [if_neg hx] at h3
    cases h3
    rw [show S.contains k = false from by simpa using hx]
section
variable {F : Fence} {nF : Nat} (w : World) {ops : Array Oper} {rest : List Oper} {o : Oper} {a : Act} {Q : Exit → Act → World → Prop}
theorem wpListIn_set_put (hg : o.guard = none) (m x v : Operand) (hop : o.op = Op.mapUpdate 217 m x v) (b : Nat) (S : List Int) (k : Int) (hm : a.eval m = .map (some b)) (h : SetAt w b S) (hx : a.eval x = .int .i64 k) (hv : a.eval v = .bool true) (hk : 0 ≤ k ∧ k < 1000000)
    (hK : ∀ w', SetAt w' b (insS k S) → w.grownBy w' (some b) → wpListIn F nF Tryz.prog ops Q rest (a.put o.dst undef) w') : wpListIn F nF Tryz.prog ops Q (o :: rest) a w := by
  refine wpListIn_plain hg fun K' hK' => ?_
  obtain ⟨w', hrun, r1, r2⟩ := h.put hk
  unfold Oper.wpIn
  refine ⟨by simp [Oper.about, hop], ?_⟩
  rw [Oper.semAt_plain F _ _ (by rw [hop]; intro c hc'; cases hc')]
  simp [execOp, hop, hm, hx, hv, hrun, Result.andThen]
  exact hK' _ _ (hK w' r1 r2)
theorem wpListIn_set_range (hg : o.guard = none) (m : Operand) (hop : o.op = Op.range 217 m) (v : Value) (S : List Int) (hm : a.eval m = v) (h : SetV w v S)
    (hK : ∀ w', RngV w' w.heap.size v S S → w.grownBy w' none → w'.heap.size = w.heap.size + 1 → wpListIn F nF Tryz.prog ops Q rest (a.put o.dst (.pointer (some ⟨w.heap.size, 0, none⟩))) w') : wpListIn F nF Tryz.prog ops Q (o :: rest) a w := by
  refine wpListIn_plain hg fun K' hK' => ?_
  obtain ⟨w', hrun, r1, r2, r3⟩ := h.range
  unfold Oper.wpIn
  refine ⟨by simp [Oper.about, hop], ?_⟩
  rw [Oper.semAt_plain F _ _ (by rw [hop]; intro c hc'; cases hc')]
  simp [execOp, hop, hm, hrun, Result.andThen]
  exact hK' _ _ (hK w' r1 r2 r3)
theorem wpList_set_range (hg : o.guard = none) (m : Operand) (hop : o.op = Op.range 217 m) (v : Value) (S : List Int) (hm : a.eval m = v) (h : SetV w v S)
    (hK : ∀ w', RngV w' w.heap.size v S S → w.grownBy w' none → w'.heap.size = w.heap.size + 1 → wpList Tryz.prog ops Q rest (a.put o.dst (.pointer (some ⟨w.heap.size, 0, none⟩))) w') : wpList Tryz.prog ops Q (o :: rest) a w := by
  refine wpList_plain hg fun K' hK' => ?_
  obtain ⟨w', hrun, r1, r2, r3⟩ := h.range
  unfold Oper.wp
  simp [execOp, hop, hm, hrun, Result.andThen]
  exact hK' _ _ (hK w' r1 r2 r3)
theorem wpListIn_set_next (hg : o.guard = none) (it : Operand) (hop : o.op = Op.next it false) (r : Nat) (v : Value) (S L : List Int) (hit : a.eval it = .pointer (some ⟨r, 0, none⟩)) (h : RngV w r v S L)
    (hDone : L = [] → wpListIn F nF Tryz.prog ops Q rest (a.put o.dst (.tuple #[.bool false])) w)
    (hMore : ∀ (x : Int) (w' : World), x ∈ L → RngV w' r v S (L.filter (· != x)) → w.grownBy w' (some r) → w'.heap.size = w.heap.size → (Instr.entry (.pointer (some ⟨r, 0, none⟩))).run Tryz.prog w' = .ok (.tuple #[.int .i64 x, .bool true]) w' →
      wpListIn F nF Tryz.prog ops Q rest (a.put o.dst (.tuple #[.bool true, .int .i64 x, .bool true])) w') : wpListIn F nF Tryz.prog ops Q (o :: rest) a w := by
  refine wpListIn_plain hg fun K' hK' => ?_
  unfold Oper.wpIn
  refine ⟨by simp [Oper.about, hop], ?_⟩
  rw [Oper.semAt_plain F _ _ (by rw [hop]; intro c hc'; cases hc')]
  rcases h.next o.type with ⟨h0, hrun⟩ | ⟨x, w', hx, hrun, hrg, hgr, hsz, hen⟩
  · simp [execOp, hop, hit, hrun, Result.andThen]
    exact hK' _ _ (hDone h0)
  · simp [execOp, hop, hit, hrun, Result.andThen]
    exact hK' _ _ (hMore x w' hx hrg hgr hsz hen)
theorem wpList_set_next (hg : o.guard = none) (it : Operand) (hop : o.op = Op.next it false) (r : Nat) (v : Value) (S L : List Int) (hit : a.eval it = .pointer (some ⟨r, 0, none⟩)) (h : RngV w r v S L)
    (hDone : L = [] → wpList Tryz.prog ops Q rest (a.put o.dst (.tuple #[.bool false])) w)
    (hMore : ∀ (x : Int) (w' : World), x ∈ L → RngV w' r v S (L.filter (· != x)) → w.grownBy w' (some r) → w'.heap.size = w.heap.size → (Instr.entry (.pointer (some ⟨r, 0, none⟩))).run Tryz.prog w' = .ok (.tuple #[.int .i64 x, .bool true]) w' →
      wpList Tryz.prog ops Q rest (a.put o.dst (.tuple #[.bool true, .int .i64 x, .bool true])) w') : wpList Tryz.prog ops Q (o :: rest) a w := by
  refine wpList_plain hg fun K' hK' => ?_
  unfold Oper.wp
  rcases h.next o.type with ⟨h0, hrun⟩ | ⟨x, w', hx, hrun, hrg, hgr, hsz, hen⟩
  · simp [execOp, hop, hit, hrun, Result.andThen]
    exact hK' _ _ (hDone h0)
  · simp [execOp, hop, hit, hrun, Result.andThen]
    exact hK' _ _ (hMore x w' hx hrg hgr hsz hen)
end
theorem SetV.len {w : World} {v : Value} {S : List Int} (h : SetV w v S) (ty : TypeId) : (Builtin.len_ #[217] ty #[v]).run Tryz.prog w = .ok (.int .i64 S.length) w := by
  rcases h with ⟨rfl, rfl⟩ | ⟨b, rfl, h⟩
  · exact Maps.len_nil Tryz.underlying217 ty
  · rw [h.own.len Tryz.underlying217 ty, setD_size]
end Go.Proofs.YtgalekifgnecjaaGreat
