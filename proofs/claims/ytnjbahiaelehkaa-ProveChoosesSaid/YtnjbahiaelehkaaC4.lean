/- append of lines; with (23) of the laws' package. -/
import Derived.Test.YtnjbahiaelehkaaC3
import Derived.Deep.RegionLaw
import Derived.Maps.AppendAt
namespace Go.Proofs.Ytnjbahiaelehkaa
open Go.RowKit

theorem c5_one (l : List AM) : ∀ u ∈ l.flatMap c5, u.oneCell' = true := by
  intro u hu
  rw [List.mem_flatMap] at hu
  obtain ⟨x, _, hx⟩ := hu
  simp [c5] at hx
  rcases hx with rfl | rfl | rfl | rfl | rfl <;> rfl
theorem Rd.cells {w : World} {b off : Nat} {l : List AM} (h : Rd w (some ⟨b, off, none⟩) l) : ∀ j u, (l.flatMap c5)[j]? = some u → w.cell? ((⟨b, off, none⟩ : Addr).add j) = some u := by
  intro j u hu
  have hj : j < l.length * 5 := by
    have := (List.getElem?_eq_some_iff.1 hu).1
    rw [c5_length] at this
    exact this
  have hi : j / 5 < l.length := by omega
  obtain ⟨b', off', e, hlt, h0, h1, h2, h3, h4⟩ := h (j / 5) hi
  simp only [Option.some.injEq, Addr.mk.injEq, and_true] at e
  obtain ⟨rfl, rfl⟩ := e
  have hk : j % 5 < 5 := Nat.mod_lt _ (by decide)
  have ej : j = j / 5 * 5 + j % 5 := by omega
  have hc := c5_at l (j / 5) hi (j % 5) hk
  rw [← ej, hu] at hc
  have ea : ((⟨b, off, none⟩ : Addr).add j) = ⟨b, off + j / 5 * 5 + j % 5, none⟩ := by
    unfold Addr.add
    by_cases h0 : j = 0
    · subst h0; simp
    · simp [h0]; omega
  rw [ea]
  generalize j % 5 = k at *
  match k, hk with
  | 0, _ => simp [c5] at hc; rw [hc]; exact h0
  | 1, _ => simp [c5] at hc; rw [hc]; exact h1
  | 2, _ => simp [c5] at hc; rw [hc]; exact h2
  | 3, _ => simp [c5] at hc; rw [hc]; exact h3
  | 4, _ => simp [c5] at hc; rw [hc]; exact h4

theorem run_append_lines (w : World) (base : Nat) (ty : TypeId) (v : Value) (l0 l : List AM) (hown : OwnL w base v l0) (a : Option Addr) (c : Nat) (hl : Rd w a l) (hs : l0.length + l.length ≤ 1000000) (hb : base ≤ w.heap.size) :
    ∃ v' w', (Builtin.append_ #[22, 22] ty #[v, .slice a l.length c]).run Try.prog w = .ok v' w' ∧ OwnL w' base v' (l0 ++ l) ∧ w.grownBy w' v.ownBlock ∧ (v'.ownBlock = v.ownBlock ∨ v'.ownBlock = some w.heap.size) := by
  obtain ⟨i4, hj4, hy0, hy1, hy2⟩ := info_parts info24
  cases a with
  | none =>
    have hl0 : l = [] := by
      cases l with
      | nil => rfl
      | cons x l =>
        obtain ⟨b, off, e, _⟩ := hl 0 (Nat.succ_pos _)
        cases e
    subst hl0
    refine ⟨v, w, ?_, by rw [List.append_nil]; exact hown, ⟨rfl, rfl, rfl, Nat.le_refl _, fun _ _ _ => rfl⟩, .inl rfl⟩
    rcases hown.2 with ⟨rfl, h0⟩ | ⟨g, cap, cur, rfl, _, _, hnc, _⟩
    · simp [Builtin.append_, run_underlying Try.underlying22, sizeOf, typeInfo, hj4, Builtin.lenOf, Builtin.firstCells]
    · simp [Builtin.append_, run_underlying Try.underlying22, sizeOf, typeInfo, hj4, Builtin.lenOf, Builtin.firstCells, hnc, storeCells]
  | some ad =>
    have hcells : ∀ j u, (l.flatMap c5)[j]? = some u → w.cell? (ad.add j) = some u := by
      cases l with
      | nil => intro j u hu; simp at hu
      | cons x l =>
        obtain ⟨b, off, e, _⟩ := hl 0 (Nat.succ_pos _)
        injection e with e
        subst e
        exact hl.cells
    obtain ⟨v', w', h1, h2, h3, _, h5⟩ := run_append_own_at (P := Try.prog) w base 22 ty 24 i4 _ 5 40 Try.underlying22 hj4 hy0 hy1 hy2 rfl (by decide) v l0.length (l0.flatMap c5) hown ad l.length c (l.flatMap c5) (c5_length l) hcells (c5_one l) (by unfold maxLen; omega) (by omega) hb
    refine ⟨v', w', h1, ?_, h3, h5⟩
    unfold OwnL
    rw [List.length_append, List.flatMap_append]
    exact h2
theorem step_append_lines {ops : Array Oper} {o : Oper} {a : Act} {K : Act → World → Prop} {Q : Exit → Act → World → Prop} {E : Prop} (w : World) (hgd : o.guard = none) (s x : Operand)
    (ho : o.op = .call { callee := .builtin .append, args := #[s, x], argTypes := #[22, 22] }) (base : Nat) (v : Value) (l0 l : List AM) (hsv : a.eval s = v) (hown : OwnL w base v l0) (A : Option Addr) (c : Nat) (hx : a.eval x = .slice A l.length c) (hl : Rd w A l) (hs : l0.length + l.length ≤ 1000000) (hb : base ≤ w.heap.size)
    (h : ∀ v' w', OwnL w' base v' (l0 ++ l) → w.grownBy w' v.ownBlock → (v'.ownBlock = v.ownBlock ∨ v'.ownBlock = some w.heap.size) → K (a.put o.dst v') w') :
    if Region.wanted o (yielded ops a.tmps) = true then Oper.wp Try.prog o a w K Q else E := by
  have hw : Region.wanted o (yielded ops a.tmps) = true := by simp [Region.wanted, hgd]
  rw [if_pos hw]
  obtain ⟨v', w', hrun, h2, h3, h4⟩ := run_append_lines w base o.type v l0 l hown A c hl hs hb
  unfold Oper.wp execOp
  simp only [ho, resolve, invoke, builtin, Sem.run_bind, Sem.run_pure, Result.andThen_ok, List.map_toArray, List.map_cons, List.map_nil, hsv, hx, hrun]
  exact h v' w' h2 h3 h4

theorem OwnL.none {w : World} {base g : Nat} (hb : base ≤ g) (h : w.heap[g]? = some (.cells #[] 24 (0, 0))) : OwnL w base (.slice (some ⟨g, 0, none⟩) 0 0) [] := ⟨rfl, .inr ⟨g, 0, #[], rfl, hb, h, Nat.le_refl _, Nat.zero_le _, rfl, rfl⟩⟩

theorem bmore {w W : World} (h : Below w.heap.size w W) (o : Obj) : Below w.heap.size w (W.alloc o) := h.alloc h.size o
theorem heap_drew (w : World) : w.drew.heap = w.heap := rfl
theorem heap_alloc_if (w : World) (o : Obj) (k : Nat) : (w.alloc o).heap[k]? = if k = w.heap.size then some o else w.heap[k]? := by
  by_cases h : k = w.heap.size
  · rw [if_pos h]
    exact heapn _ _ _ h
  · rw [if_neg h]
    by_cases hl : k < w.heap.size
    · exact heapo _ _ _ hl
    · rw [Array.getElem?_eq_none (by simp; omega), Array.getElem?_eq_none (by omega)]
theorem box_kept {W1 w1 : World} {g : Option Nat} (hg : W1.grownBy w1 g) {b : Nat} {o : Obj} (hb : W1.heap[b]? = some o) (hne : some b ≠ g) : w1.heap[b]? = some o := (hg.block b (lt_of_heap hb) hne).trans hb
theorem Rd.one {W : World} {g : Nat} {x : AM} (h : W.heap[g]? = some (.cells #[.int .i64 x.A, .int .i64 x.P, .int .i64 x.B, .int .i64 x.Q, .int .i64 x.M] 24 (0, 0))) : Rd W (some ⟨g, 0, none⟩) [x] := by
  intro i hi
  have hi0 : i = 0 := by simpa using hi
  subst hi0
  exact ⟨g, 0, rfl, lt_of_heap h, cell_in h rfl, cell_in h rfl, cell_in h rfl, cell_in h rfl, cell_in h rfl⟩
theorem AMat.of {W : World} {g : Nat} {x : AM} (h : W.heap[g]? = some (.cells #[.int .i64 x.A, .int .i64 x.P, .int .i64 x.B, .int .i64 x.Q, .int .i64 x.M] 24 (0, 0))) : AMat W g 0 x := ⟨cell_in h rfl, cell_in h rfl, cell_in h rfl, cell_in h rfl, cell_in h rfl⟩
/-- What the first append leaves. -/
structure Ap (w : World) (l : List AM) (x : AM) (v1 : Value) (w1 : World) : Prop where
  own : OwnL w1 w.heap.size v1 l
  b : Below w.heap.size w w1
  box : w1.heap[w.heap.size]? = some (.cells #[.int .i64 x.A, .int .i64 x.P, .int .i64 x.B, .int .i64 x.Q, .int .i64 x.M] 24 (0, 0))

set_option maxRecDepth 100000 in
set_option maxHeartbeats 4000000 in
theorem with_any (l : List AM) (A P B Q M : Int) (a : Option Addr) (cap : Nat) (w : World) (hl : Rd w a l) (hlen : l.length ≤ 1000) :
    Calls Try.prog 23 #[.slice a l.length cap, .agg #[.int .i64 A, .int .i64 P, .int .i64 B, .int .i64 Q, .int .i64 M]] w (RetL (l ++ [⟨A, P, B, Q, M⟩]) w) := by
  have HL := hid hl; clear hl
  go_enter Try.func23, Try.ntmps23
  go_upto_region 1 with fail
  go_region_law (first
    | (refine step_append_lines _ rfl (.tmp 5) (.tmp 6) rfl w.heap.size _ [] l (by rfl) (.none (by omega) (by simp only [heap_drew, heap_alloc_if, World.size_alloc] <;> simp <;> omega)) a cap (by rfl) (HL.out.below (by repeat (first | exact Below.refl _ _ | refine Below.drew ?_ | refine bmore ?_ _))) (by simp; omega) (by simp; try omega) ?_
       intro v1 w1 hown1 hg1 hat1
       have HAP : Hid (Ap w l ⟨A, P, B, Q, M⟩ v1 w1) := hid ⟨by simpa using hown1, Below.grown (by repeat (first | exact Below.refl _ _ | refine Below.drew ?_ | refine bmore ?_ _)) hg1 (by simp; try omega) (by intro q hq; simp [Value.ownBlock] at hq; omega), box_kept hg1 (by simp only [heap_drew, heap_alloc_if, World.size_alloc] <;> simp <;> omega) (by simp [Value.ownBlock] <;> omega)⟩
       have hbx := AMat.of HAP.out.box
       obtain ⟨k0, k1, k2, k3, k4⟩ := hbx
       simp only [Nat.zero_add] at k0 k1 k2 k3 k4
       clear hown1 hat1)
    | (refine step_append_lines _ rfl (.tmp 7) (.tmp 9) rfl w.heap.size _ l [⟨A, P, B, Q, M⟩] (by rfl) (by first | exact HAP.out.own | exact World.ownsRow.alloc HAP.out.own _) (some ⟨_, 0, none⟩) 1 (by rfl) (Rd.one (by first | exact heapn _ _ _ rfl | exact box_kept hg1 (by simp only [heap_drew, heap_alloc_if, World.size_alloc] <;> simp <;> omega) (by simp [Value.ownBlock] <;> omega))) (by simp; omega) (by have := HAP.out.b.size; simp; try omega) ?_
       intro v2 w2 hown2 hg2 hat2
       have HB2 := hid (Below.grown (by first | exact HAP.out.b | exact HAP.out.b.alloc HAP.out.b.size _) hg2 (by have := HAP.out.b.size; simp; try omega) (own_ge HAP.out.own))
       have HO2 := hid hown2
       clear hown2 hg2 hat2))
  all_goals go_wp2
  all_goals go_ret
  all_goals exact ⟨HB2.out, _, rfl, HO2.out⟩
end Go.Proofs.Ytnjbahiaelehkaa
