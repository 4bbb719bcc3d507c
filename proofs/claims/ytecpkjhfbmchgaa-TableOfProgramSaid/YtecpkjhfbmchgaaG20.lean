/- Rows of rows in memory, appended to; the contract of Back of package table. -/
import Derived.Test.YtecpkjhfbmchgaaG19
namespace Go.Proofs.Ytecpkjhfbmchgaa
open Go.RowKit

theorem run_append_val {ts e : TypeId} (h1 : Try.prog.underlying ts = some (.slice e)) (h2 : (Try.prog.info? e).map (fun i => (i.zero, i.size, i.bytes)) = some (some (.slice none 0 0), 1, 24)) (w : World) (base : Nat) (ty : TypeId) (v : Value) (vs : List Value) (hown : w.ownsRow base e 1 v vs.length vs) (ad : Addr) (c : Nat) (rv : Value) (hr : rv.oneCell' = true) (hl : w.cell? ad = some rv) (hs : vs.length ≤ 1000000) (hb : base ≤ w.heap.size) :
    ∃ v' w', (Builtin.append_ #[ts, ts] ty #[v, .slice (some ad) 1 c]).run Try.prog w = .ok v' w' ∧ w'.ownsRow base e 1 v' (vs ++ [rv]).length (vs ++ [rv]) ∧ w.grownBy w' v.ownBlock := by
  obtain ⟨i4, hj4, hy0, hy1, hy2⟩ := info_parts h2
  obtain ⟨v', w', k1, k2, k3, _, _⟩ := run_append_own_at (P := Try.prog) w base ts ty e i4 _ 1 24 h1 hj4 hy0 hy1 hy2 rfl (by decide) v vs.length vs hown ad 1 c [rv] rfl (fun j u hu => by
    match j, hu with
    | 0, hu => cases hu; exact hl
    | j + 1, hu => simp at hu) (fun u hu => by rw [List.mem_singleton.1 hu]; exact hr) (by unfold maxLen; omega) (by omega) hb
  exact ⟨v', w', k1, by rw [List.length_append]; exact k2, k3⟩
theorem wpList_append_val {ts e : TypeId} (h1 : Try.prog.underlying ts = some (.slice e)) (h2 : (Try.prog.info? e).map (fun i => (i.zero, i.size, i.bytes)) = some (some (.slice none 0 0), 1, 24)) {ops : Array Oper} {rest : List Oper} {o : Oper} {a : Act} {Q : Exit → Act → World → Prop} (w : World) (hgd : o.guard = none) (s x : Operand)
    (ho : o.op = .call { callee := .builtin .append, args := #[s, x], argTypes := #[ts, ts] }) (base : Nat) (v : Value) (vs : List Value) (hsv : a.eval s = v) (hown : w.ownsRow base e 1 v vs.length vs) (ad : Addr) (c : Nat) (rv : Value) (hr : rv.oneCell' = true) (hx : a.eval x = .slice (some ad) 1 c) (hl : w.cell? ad = some rv) (hs : vs.length ≤ 1000000) (hb : base ≤ w.heap.size)
    (h : ∀ v' w', w'.ownsRow base e 1 v' (vs ++ [rv]).length (vs ++ [rv]) → w.grownBy w' v.ownBlock → wpList Try.prog ops Q rest (a.put o.dst v') w') : wpList Try.prog ops Q (o :: rest) a w := by
  refine wpList_plain hgd fun K hK => ?_
  obtain ⟨v', w', hrun, k2, k3⟩ := run_append_val h1 h2 w base o.type v vs hown ad c rv hr hl hs hb
  unfold Oper.wp execOp
  simp only [ho, resolve, invoke, builtin, Sem.run_bind, Sem.run_pure, Result.andThen_ok, List.map_toArray, List.map_cons, List.map_nil, hsv, hx, hrun]
  exact hK _ _ (h v' w' k2 k3)
theorem info23 : (Try.prog.info? 33).map (fun i => (i.zero, i.size, i.bytes)) = some (some (.slice none 0 0), 1, 24) := by kernel_rfl
theorem info95 : (Try.prog.info? 61).map (fun i => (i.zero, i.size, i.bytes)) = some (some (.slice none 0 0), 1, 24) := by kernel_rfl

/-- Rows of pairs, read off a slice. -/
def RdG (w : World) (a : Option Addr) (m : List (List (Int × Int))) : Prop :=
  ∀ i (h : i < m.length), ∃ b off, a = some ⟨b, off, none⟩ ∧ b < w.heap.size ∧ ∃ ai ci, w.cell? ⟨b, off + i, none⟩ = some (.slice ai m[i].length ci) ∧ RdP w ai m[i]
theorem RdG.below {w w' : World} {a : Option Addr} {m : List (List (Int × Int))} (h : RdG w a m) (hb : Below w.heap.size w w') : RdG w' a m := by
  intro i hi
  obtain ⟨b, off, ha, hlt, ai, ci, h1, h2⟩ := h i hi
  exact ⟨b, off, ha, Nat.lt_of_lt_of_le hlt hb.size, ai, ci, cell_later hb h1, h2.below hb⟩

theorem own_type {w : World} {base : Nat} {e : TypeId} {sz : Nat} {v : Value} {n : Nat} {xs : List Value} (h : w.ownsRow base e sz v n xs) : ∀ g, v.ownBlock = some g → ∃ cur, w.heap[g]? = some (.cells cur e (0, 0)) := by
  rcases h.2 with ⟨rfl, _⟩ | ⟨g, cap, cur, rfl, _, hh, _⟩
  · intro g hg
    cases hg
  · intro g' hg
    cases hg
    exact ⟨cur, hh⟩

/-- A row of numbers in a block of its own. -/
def RowI (w : World) (a : Option Addr) (r : List Int) : Prop := r = [] ∨ ∃ g, a = some ⟨g, 0, none⟩ ∧ BI w g r
theorem RowI.rd {w : World} {a : Option Addr} {r : List Int} (h : RowI w a r) : RdI w a r := by
  rcases h with rfl | ⟨g, rfl, h⟩
  · exact fun i hi => absurd hi (Nat.not_lt_zero _)
  · exact h.rd
theorem RowI.below {w w' : World} {a : Option Addr} {r : List Int} (h : RowI w a r) (hb : Below w.heap.size w w') : RowI w' a r := by
  rcases h with rfl | ⟨g, rfl, h⟩
  · exact .inl rfl
  · exact .inr ⟨g, rfl, h.below hb⟩
theorem RowI.grown {w w' : World} {a : Option Addr} {r : List Int} {gb : Option Nat} (h : RowI w a r) (hg : w.grownBy w' gb) (ht : ∀ g, gb = some g → ∃ cur, w.heap[g]? = some (.cells cur 33 (0, 0))) : RowI w' a r := by
  rcases h with rfl | ⟨g, rfl, cur, hh, hc⟩
  · exact .inl rfl
  · refine .inr ⟨g, rfl, cur, ?_, hc⟩
    refine box_kept hg hh fun e => ?_
    obtain ⟨cur', h'⟩ := ht g e.symm
    rw [hh] at h'
    cases h'
/-- Rows of numbers in a slice of the call's own. -/
def OwnM (w : World) (base : Nat) (v : Value) (m : List (List Int)) : Prop := ∃ vs : List Value, vs.length = m.length ∧ w.ownsRow base 33 1 v vs.length vs ∧ ∀ i (h : i < m.length), ∃ ai ci, vs[i]? = some (.slice ai m[i].length ci) ∧ RowI w ai m[i]
theorem OwnM.nil (w : World) (base : Nat) : OwnM w base (.slice none 0 0) [] := ⟨[], rfl, World.ownsRow_nil _ _ _ _, fun _i hi => absurd hi (Nat.not_lt_zero _)⟩
theorem OwnM.later {w w' : World} {base : Nat} {v : Value} {m : List (List Int)} (h : OwnM w base v m) (hb : Below w.heap.size w w') : OwnM w' base v m := by
  obtain ⟨vs, h1, h2, h3⟩ := h
  refine ⟨vs, h1, own_below h2 hb, fun i hi => ?_⟩
  obtain ⟨ai, ci, k1, k2⟩ := h3 i hi
  exact ⟨ai, ci, k1, k2.below hb⟩
theorem OwnM.rd {w : World} {base : Nat} {v : Value} {m : List (List Int)} (h : OwnM w base v m) : ∃ a cap, v = .slice a m.length cap ∧ RdM w a m ∧ NewA base a := by
  obtain ⟨vs, h1, h2, h3⟩ := h
  rcases h2.2 with ⟨rfl, h0⟩ | ⟨g, cap, cur, rfl, hg, hh, k1, k2, k3, k4⟩
  · exact ⟨none, 0, by rw [← h1, h0], fun i hi => by omega, fun b off e => by cases e⟩
  · rw [h1]
    refine ⟨_, cap, rfl, fun i hi => ?_, fun b off e => by cases e; exact hg⟩
    obtain ⟨ai, ci, q1, q2⟩ := h3 i hi
    refine ⟨g, 0, rfl, lt_of_heap hh, ai, ci, ?_, q2.rd⟩
    rw [cell_of_row _ _ _ _ _ _ hh, Nat.zero_add]
    have e : (cur.toList.take (vs.length * 1))[i]? = vs[i]? := by rw [k4]
    rw [List.getElem?_take, if_pos (by omega), q1] at e
    rw [← e]
    simp
theorem OwnM.push {w w' : World} {base : Nat} {v v' : Value} {m : List (List Int)} {vs : List Value} {r : List Int} {ai : Option Addr} {ci : Nat} (h1 : vs.length = m.length) (hown : w.ownsRow base 33 1 v vs.length vs) (h3 : ∀ i (h : i < m.length), ∃ ai ci, vs[i]? = some (.slice ai m[i].length ci) ∧ RowI w ai m[i]) (hr : RowI w ai r)
    (h : w'.ownsRow base 33 1 v' (vs ++ [Value.slice ai r.length ci]).length (vs ++ [Value.slice ai r.length ci])) (hg : w.grownBy w' v.ownBlock) : OwnM w' base v' (m ++ [r]) := by
  have ht := own_type hown
  refine ⟨vs ++ [Value.slice ai r.length ci], by simp [h1], h, fun i hi => ?_⟩
  by_cases e : i < m.length
  · obtain ⟨a1, c1, k1, k2⟩ := h3 i e
    refine ⟨a1, c1, ?_, ?_⟩
    · rw [List.getElem?_append_left (by omega), List.getElem_append_left e]
      exact k1
    · rw [List.getElem_append_left e]
      exact k2.grown hg ht
  · have hi' : i = m.length := by rw [List.length_append] at hi; simp at hi; omega
    subst hi'
    refine ⟨ai, ci, ?_, ?_⟩
    · rw [List.getElem?_append_right (by omega)]
      simp [h1]
    · have := hr.grown hg ht
      simpa using this

/-- A row of pairs in a block of its own. -/
def RowP (w : World) (a : Option Addr) (r : List (Int × Int)) : Prop := r = [] ∨ ∃ g, a = some ⟨g, 0, none⟩ ∧ BP 63 w g r
theorem RowP.rd {w : World} {a : Option Addr} {r : List (Int × Int)} (h : RowP w a r) : RdP w a r := by
  rcases h with rfl | ⟨g, rfl, h⟩
  · exact fun i hi => absurd hi (Nat.not_lt_zero _)
  · exact h.rd
theorem RowP.below {w w' : World} {a : Option Addr} {r : List (Int × Int)} (h : RowP w a r) (hb : Below w.heap.size w w') : RowP w' a r := by
  rcases h with rfl | ⟨g, rfl, h⟩
  · exact .inl rfl
  · exact .inr ⟨g, rfl, h.below hb⟩
theorem RowP.grown {w w' : World} {a : Option Addr} {r : List (Int × Int)} {gb : Option Nat} (h : RowP w a r) (hg : w.grownBy w' gb) (ht : ∀ g, gb = some g → ∃ cur, w.heap[g]? = some (.cells cur 61 (0, 0))) : RowP w' a r := by
  rcases h with rfl | ⟨g, rfl, cur, hh, hc⟩
  · exact .inl rfl
  · refine .inr ⟨g, rfl, cur, ?_, hc⟩
    refine box_kept hg hh fun e => ?_
    obtain ⟨cur', h'⟩ := ht g e.symm
    rw [hh] at h'
    cases h'
/-- Rows of pairs in a slice of the call's own. -/
def OwnG (w : World) (base : Nat) (v : Value) (m : List (List (Int × Int))) : Prop := ∃ vs : List Value, vs.length = m.length ∧ w.ownsRow base 61 1 v vs.length vs ∧ ∀ i (h : i < m.length), ∃ ai ci, vs[i]? = some (.slice ai m[i].length ci) ∧ RowP w ai m[i]
theorem OwnG.nil (w : World) (base : Nat) : OwnG w base (.slice none 0 0) [] := ⟨[], rfl, World.ownsRow_nil _ _ _ _, fun _i hi => absurd hi (Nat.not_lt_zero _)⟩
theorem OwnG.later {w w' : World} {base : Nat} {v : Value} {m : List (List (Int × Int))} (h : OwnG w base v m) (hb : Below w.heap.size w w') : OwnG w' base v m := by
  obtain ⟨vs, h1, h2, h3⟩ := h
  refine ⟨vs, h1, own_below h2 hb, fun i hi => ?_⟩
  obtain ⟨ai, ci, k1, k2⟩ := h3 i hi
  exact ⟨ai, ci, k1, k2.below hb⟩
theorem OwnG.rd {w : World} {base : Nat} {v : Value} {m : List (List (Int × Int))} (h : OwnG w base v m) : ∃ a cap, v = .slice a m.length cap ∧ RdG w a m ∧ NewA base a := by
  obtain ⟨vs, h1, h2, h3⟩ := h
  rcases h2.2 with ⟨rfl, h0⟩ | ⟨g, cap, cur, rfl, hg, hh, k1, k2, k3, k4⟩
  · exact ⟨none, 0, by rw [← h1, h0], fun i hi => by omega, fun b off e => by cases e⟩
  · rw [h1]
    refine ⟨_, cap, rfl, fun i hi => ?_, fun b off e => by cases e; exact hg⟩
    obtain ⟨ai, ci, q1, q2⟩ := h3 i hi
    refine ⟨g, 0, rfl, lt_of_heap hh, ai, ci, ?_, q2.rd⟩
    rw [cell_of_row _ _ _ _ _ _ hh, Nat.zero_add]
    have e : (cur.toList.take (vs.length * 1))[i]? = vs[i]? := by rw [k4]
    rw [List.getElem?_take, if_pos (by omega), q1] at e
    rw [← e]
    simp
theorem OwnG.push {w w' : World} {base : Nat} {v v' : Value} {m : List (List (Int × Int))} {vs : List Value} {r : List (Int × Int)} {ai : Option Addr} {ci : Nat} (h1 : vs.length = m.length) (hown : w.ownsRow base 61 1 v vs.length vs) (h3 : ∀ i (h : i < m.length), ∃ ai ci, vs[i]? = some (.slice ai m[i].length ci) ∧ RowP w ai m[i]) (hr : RowP w ai r)
    (h : w'.ownsRow base 61 1 v' (vs ++ [Value.slice ai r.length ci]).length (vs ++ [Value.slice ai r.length ci])) (hg : w.grownBy w' v.ownBlock) : OwnG w' base v' (m ++ [r]) := by
  have ht := own_type hown
  refine ⟨vs ++ [Value.slice ai r.length ci], by simp [h1], h, fun i hi => ?_⟩
  by_cases e : i < m.length
  · obtain ⟨a1, c1, k1, k2⟩ := h3 i e
    refine ⟨a1, c1, ?_, ?_⟩
    · rw [List.getElem?_append_left (by omega), List.getElem_append_left e]
      exact k1
    · rw [List.getElem_append_left e]
      exact k2.grown hg ht
  · have hi' : i = m.length := by rw [List.length_append] at hi; simp at hi; omega
    subst hi'
    refine ⟨ai, ci, ?_, ?_⟩
    · rw [List.getElem?_append_right (by omega)]
      simp [h1]
    · have := hr.grown hg ht
      simpa using this

/-- A row under way. -/
def backU (L : Ld) (i k : Nat) : List Int := (List.range k).map (backE L i) ++ List.replicate (L.cols.toNat - k) 0
theorem backU_length (L : Ld) (i k : Nat) (h : k ≤ L.cols.toNat) : (backU L i k).length = L.cols.toNat := by
  unfold backU
  simp
  omega
theorem backU_put {L : Ld} {i k : Nat} (h : k < L.cols.toNat) (x : Int) (hx : x = backE L i k) : (backU L i k).set k x = backU L i (k + 1) := by
  unfold backU
  rw [List.set_append_right _ _ (by simp), show L.cols.toNat - k = (L.cols.toNat - (k + 1)) + 1 from by omega, List.replicate_succ, List.range_succ, List.map_append, hx]
  simp
theorem set_set {α : Type} (l : List α) (k : Nat) (x y : α) : (l.set k x).set k y = l.set k y := by simp
def backRow (L : Ld) (i : Nat) : List Int := (List.range L.cols.toNat).map (backE L i)
theorem backU_end (L : Ld) (i : Nat) : backU L i L.cols.toNat = backRow L i := by unfold backU backRow; simp
def backP (L : Ld) (i : Nat) : List (List Int) := (List.range i).map (backRow L)
theorem backP_succ (L : Ld) (i : Nat) : backP L (i + 1) = backP L i ++ [backRow L i] := by unfold backP; rw [List.range_succ, List.map_append]; rfl
theorem backP_end (L : Ld) : backP L L.starts.length = backM L := rfl
/-- What a call returns: a matrix, and a number. -/
def MatRet (m : List (List Int)) (y : Int) (w : World) (e : Ending) (w' : World) : Prop := Below w.heap.size w w' ∧ ∃ a c, e = .returned (.tuple #[.slice a m.length c, .int .i64 y]) ∧ RdM w' a m

end Go.Proofs.Ytecpkjhfbmchgaa
