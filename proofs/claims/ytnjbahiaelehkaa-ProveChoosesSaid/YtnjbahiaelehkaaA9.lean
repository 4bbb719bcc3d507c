/- What lies in memory for a closed, and how it turns. -/
import Derived.Test.YtnjbahiaelehkaaA8
namespace Go.Proofs.Ytnjbahiaelehkaa
open Go.RowKit

theorem wpList_built {P : Program} {ops : Array Oper} {rest : List Oper} {o : Oper} {a : Act} {w : World} {Q : Exit → Act → World → Prop} (hg : o.guard = none) (t : TypeId) (parts : Array (Nat × Operand)) (ho : o.op = .build t parts)
    (vs : List (Nat × Value)) (hvs : (parts.map fun (i, x) => (i, a.eval x)).toList = vs) (C : Array Value) (hC : (P.built t vs).getD #[] = C) (hs : (P.built t vs).isSome = true)
    (h : wpList P ops Q rest (a.put o.dst (.agg C)) w) : wpList P ops Q (o :: rest) a w := by
  subst hvs hC
  exact wpList_build hg t parts ho hs h
noncomputable def C0 (n : Int) (p : Option Addr) : Array Value := (Try.prog.built 105 [(0, .int .i64 n), (1, .pointer p)]).getD #[]
theorem C0_some (n : Int) (p : Option Addr) : (Try.prog.built 105 [(0, .int .i64 n), (1, .pointer p)]).isSome = true := by kernel_rfl
theorem C0_size (n : Int) (p : Option Addr) : (C0 n p).size = 51 := by kernel_rfl
theorem C0_one (n : Int) (p : Option Addr) : (C0 n p).all (·.oneCell') = true := by kernel_rfl
theorem C0_n (n : Int) (p : Option Addr) : (C0 n p)[0]? = some (.int .i64 n) := by kernel_rfl
theorem C0_by (n : Int) (p : Option Addr) : (C0 n p)[1]? = some (.pointer p) := by kernel_rfl
theorem C0_no (n : Int) (p : Option Addr) : (C0 n p)[50]? = some (.pointer none) := by kernel_rfl
theorem size105 : (Try.prog.info? 105).map (·.size) = some 51 := by kernel_rfl

theorem C0_top (n : Int) (p : Option Addr) : ∀ i, i < 24 → (C0 n p)[2 + i * 2]? = some (.int .i64 0) ∧ (C0 n p)[2 + i * 2 + 1]? = some (.pointer none)
  | 0, _ => ⟨by kernel_rfl, by kernel_rfl⟩
  | 1, _ => ⟨by kernel_rfl, by kernel_rfl⟩
  | 2, _ => ⟨by kernel_rfl, by kernel_rfl⟩
  | 3, _ => ⟨by kernel_rfl, by kernel_rfl⟩
  | 4, _ => ⟨by kernel_rfl, by kernel_rfl⟩
  | 5, _ => ⟨by kernel_rfl, by kernel_rfl⟩
  | 6, _ => ⟨by kernel_rfl, by kernel_rfl⟩
  | 7, _ => ⟨by kernel_rfl, by kernel_rfl⟩
  | 8, _ => ⟨by kernel_rfl, by kernel_rfl⟩
  | 9, _ => ⟨by kernel_rfl, by kernel_rfl⟩
  | 10, _ => ⟨by kernel_rfl, by kernel_rfl⟩
  | 11, _ => ⟨by kernel_rfl, by kernel_rfl⟩
  | 12, _ => ⟨by kernel_rfl, by kernel_rfl⟩
  | 13, _ => ⟨by kernel_rfl, by kernel_rfl⟩
  | 14, _ => ⟨by kernel_rfl, by kernel_rfl⟩
  | 15, _ => ⟨by kernel_rfl, by kernel_rfl⟩
  | 16, _ => ⟨by kernel_rfl, by kernel_rfl⟩
  | 17, _ => ⟨by kernel_rfl, by kernel_rfl⟩
  | 18, _ => ⟨by kernel_rfl, by kernel_rfl⟩
  | 19, _ => ⟨by kernel_rfl, by kernel_rfl⟩
  | 20, _ => ⟨by kernel_rfl, by kernel_rfl⟩
  | 21, _ => ⟨by kernel_rfl, by kernel_rfl⟩
  | 22, _ => ⟨by kernel_rfl, by kernel_rfl⟩
  | 23, _ => ⟨by kernel_rfl, by kernel_rfl⟩
  | k + 24, h => absurd h (by omega)

/-- A block of 51 cells. -/
def Row51 (w : World) (r : Nat) (R : Array Value) : Prop := w.heap[r]? = some (.cells R 105 (0, 0)) ∧ R.size = 51

theorem Row51.below {w w' : World} {r : Nat} {R : Array Value} (h : Row51 w r R) (hb : Below w.heap.size w w') : Row51 w' r R := ⟨by rw [hb.block _ (lt_of_heap h.1)]; exact h.1, h.2⟩
theorem Row51.but {M : Nat} {w w' : World} {r : Nat} {R : Array Value} (h : Row51 w r R) (hb : But M w w') (hr : r ≠ M) : Row51 w' r R := ⟨by rw [hb.block _ (lt_of_heap h.1) hr]; exact h.1, h.2⟩
theorem Row51.lt {w : World} {r : Nat} {R : Array Value} (h : Row51 w r R) : r < w.heap.size := lt_of_heap h.1
theorem Row51.frozen {w : World} {r : Nat} {R : Array Value} (h : Row51 w r R) (o : Nat) : w.frozen? ⟨r, o, none⟩ = false := by simp [World.frozen?, h.1]
theorem Row51.set {w : World} {r : Nat} {R : Array Value} (h : Row51 w r R) (o : Nat) (v : Value) : Row51 (w.setCell ⟨r, o, none⟩ v) r (R.setIfInBounds o v) :=
  ⟨heap_setCell_same w r o R 105 v h.1, by simp [h.2]⟩

/-- The cells of a closed, as a value. -/
structure CV (C : Array Value) (n M : Nat) (no : Option Addr) (tp : Nat → Int) (ty : Nat → Option Addr) : Prop where
  size : C.size = 51
  n : C[0]? = some (.int .i64 n)
  by' : C[1]? = some (.pointer (some ⟨M, 0, none⟩))
  no : C[50]? = some (.pointer no)
  most : ∀ i, i < 24 → C[2 + i * 2]? = some (.int .i64 (tp i))
  why : ∀ i, i < 24 → C[2 + i * 2 + 1]? = some (.pointer (ty i))

theorem CV.one {C : Array Value} {n M : Nat} {no : Option Addr} {tp : Nat → Int} {ty : Nat → Option Addr} (h : CV C n M no tp ty) : C.all (·.oneCell') = true := by
  rw [Array.all_eq_true]
  intro o ho
  have e : C[o]? = some C[o] := Array.getElem?_eq_getElem ho
  have key : ∀ v, C[o]? = some v → v.oneCell' = true → (C[o]).oneCell' = true := by
    intro v hv h1
    rw [e] at hv
    cases hv
    exact h1
  have hs := h.size
  by_cases h0 : o = 0
  · subst h0; exact key _ h.n rfl
  by_cases h1 : o = 1
  · subst h1; exact key _ h.by' rfl
  by_cases h2 : o = 50
  · subst h2; exact key _ h.no rfl
  by_cases h3 : o % 2 = 0
  · obtain ⟨i, rfl⟩ : ∃ i, o = 2 + i * 2 := ⟨(o - 2) / 2, by omega⟩
    exact key _ (h.most i (by omega)) rfl
  · obtain ⟨i, rfl⟩ : ∃ i, o = 2 + i * 2 + 1 := ⟨(o - 3) / 2, by omega⟩
    exact key _ (h.why i (by omega)) rfl

/-- A closed in memory. -/
structure CS (w : World) (c n M : Nat) (no : Option Addr) (tp : Nat → Int) (ty : Nat → Option Addr) : Prop where
  ex : ∃ C, Row51 w c C ∧ CV C n M no tp ty

section
variable {w : World} {c n M : Nat} {no : Option Addr} {tp : Nat → Int} {ty : Nat → Option Addr}
theorem CS.getN (h : CS w c n M no tp ty) : w.cell? ⟨c, 0, none⟩ = some (.int .i64 n) := by obtain ⟨C, r, v⟩ := h.ex; rw [cell_of_row _ _ _ _ _ _ r.1]; exact v.n
theorem CS.by' (h : CS w c n M no tp ty) : w.cell? ⟨c, 1, none⟩ = some (.pointer (some ⟨M, 0, none⟩)) := by obtain ⟨C, r, v⟩ := h.ex; rw [cell_of_row _ _ _ _ _ _ r.1]; exact v.by'
theorem CS.getNo (h : CS w c n M no tp ty) : w.cell? ⟨c, 50, none⟩ = some (.pointer no) := by obtain ⟨C, r, v⟩ := h.ex; rw [cell_of_row _ _ _ _ _ _ r.1]; exact v.no
theorem CS.most (h : CS w c n M no tp ty) {i : Nat} (hi : i < 24) : w.cell? ⟨c, 2 + i * 2, none⟩ = some (.int .i64 (tp i)) := by obtain ⟨C, r, v⟩ := h.ex; rw [cell_of_row _ _ _ _ _ _ r.1]; exact v.most i hi
theorem CS.why (h : CS w c n M no tp ty) {i : Nat} (hi : i < 24) : w.cell? ⟨c, 2 + i * 2 + 1, none⟩ = some (.pointer (ty i)) := by obtain ⟨C, r, v⟩ := h.ex; rw [cell_of_row _ _ _ _ _ _ r.1]; exact v.why i hi
theorem CS.frozen (h : CS w c n M no tp ty) (o : Nat) : w.frozen? ⟨c, o, none⟩ = false := by obtain ⟨C, r, v⟩ := h.ex; exact r.frozen o
theorem CS.lt (h : CS w c n M no tp ty) : c < w.heap.size := by obtain ⟨C, r, v⟩ := h.ex; exact r.lt
theorem CS.below {w' : World} (h : CS w c n M no tp ty) (hb : Below w.heap.size w w') : CS w' c n M no tp ty := by obtain ⟨C, r, v⟩ := h.ex; exact ⟨C, r.below hb, v⟩
theorem CS.but {w' : World} {K : Nat} (h : CS w c n M no tp ty) (hb : But K w w') (hc : c ≠ K) : CS w' c n M no tp ty := by obtain ⟨C, r, v⟩ := h.ex; exact ⟨C, r.but hb hc, v⟩
theorem CS.setNo (h : CS w c n M no tp ty) (p : Option Addr) : CS (w.setCell ⟨c, 50, none⟩ (.pointer p)) c n M p tp ty := by
  obtain ⟨C, r, v⟩ := h.ex
  refine ⟨_, r.set 50 (.pointer p), by simp [v.size], ?_, ?_, ?_, fun i hi => ?_, fun i hi => ?_⟩
  · rw [Array.getElem?_setIfInBounds_ne (by omega)]; exact v.n
  · rw [Array.getElem?_setIfInBounds_ne (by omega)]; exact v.by'
  · rw [Array.getElem?_setIfInBounds_self_of_lt (by rw [v.size]; omega)]
  · rw [Array.getElem?_setIfInBounds_ne (by omega)]; exact v.most i hi
  · rw [Array.getElem?_setIfInBounds_ne (by omega)]; exact v.why i hi
theorem CS.setTop (h : CS w c n M no tp ty) {k : Nat} (hk : k < 24) (t : Int) (p : Option Addr) :
    CS ((w.setCell ⟨c, 2 + k * 2, none⟩ (.int .i64 t)).setCell ⟨c, 2 + k * 2 + 1, none⟩ (.pointer p)) c n M no (fun i => if i = k then t else tp i) (fun i => if i = k then p else ty i) := by
  obtain ⟨C, r, v⟩ := h.ex
  refine ⟨_, (r.set _ _).set _ _, by simp [v.size], ?_, ?_, ?_, fun i hi => ?_, fun i hi => ?_⟩
  · rw [Array.getElem?_setIfInBounds_ne (by omega), Array.getElem?_setIfInBounds_ne (by omega)]; exact v.n
  · rw [Array.getElem?_setIfInBounds_ne (by omega), Array.getElem?_setIfInBounds_ne (by omega)]; exact v.by'
  · rw [Array.getElem?_setIfInBounds_ne (by omega), Array.getElem?_setIfInBounds_ne (by omega)]; exact v.no
  · rw [Array.getElem?_setIfInBounds_ne (by omega)]
    by_cases e : i = k
    · subst e; rw [Array.getElem?_setIfInBounds_self_of_lt (by rw [v.size]; omega)]; simp
    · rw [Array.getElem?_setIfInBounds_ne (by omega)]; simp only [e, if_false]; exact v.most i hi
  · by_cases e : i = k
    · subst e; rw [Array.getElem?_setIfInBounds_self_of_lt (by simp [v.size]; omega)]; simp
    · rw [Array.getElem?_setIfInBounds_ne (by omega), Array.getElem?_setIfInBounds_ne (by omega)]; simp only [e, if_false]; exact v.why i hi
end

/-- A block that holds no derivation. -/
def NotD (w : World) (K : Nat) : Prop := ∀ (C : Array Value) (X : TypeId), w.heap[K]? = some (.cells C X (0, 0)) → C.size ≠ 4
theorem Row51.notD {w : World} {r : Nat} {R : Array Value} (h : Row51 w r R) : NotD w r := by
  intro C X hC; rw [h.1] at hC; cases hC; rw [h.2]; omega
theorem IsD.but' {K : Nat} {w w' : World} (hm : NotD w K) (hb : But K w w') : ∀ {T : Tr} {d : Nat}, IsD w T d → IsD w' T d := by
  have key : ∀ {d : Nat} {D : Array Value} {Y : TypeId}, w.heap[d]? = some (.cells D Y (0, 0)) → D.size = 4 → w'.heap[d]? = some (.cells D Y (0, 0)) := by
    intro d D Y h h4
    rw [hb.block d (lt_of_heap h) ?_]; exact h
    intro e; subst e
    exact hm _ _ h h4
  intro T
  induction T with
  | line i => intro d h; exact key h rfl
  | sum x y ihx ihy => rintro d ⟨c, e, h, hx, hy⟩; exact ⟨c, e, key h rfl, ihx hx, ihy hy⟩
  | half x ih => rintro d ⟨c, h, hx⟩; exact ⟨c, key h rfl, ih hx⟩
theorem Mat.but {K : Nat} {w w' : World} {M : Nat} {D : Nat → Nat → Int} {T : Nat → Nat → Tr} (h : Mat w M D T) (hm : NotD w K) (hb : But K w w') (hK : M ≠ K) : Mat w' M D T := by
  have hM := h.big.lt
  have hc : ∀ o, w'.cell? ⟨M, o, none⟩ = w.cell? ⟨M, o, none⟩ := fun o => hb.cell (p := ⟨M, o, none⟩) hM hK
  obtain ⟨C, X, hC, hs⟩ := h.big
  refine ⟨⟨C, X, by rw [hb.block _ hM hK]; exact hC, hs⟩, fun i j hi hj => by rw [hc]; exact h.most i j hi hj, fun i j hi hj => ?_⟩
  obtain ⟨p, h1, h2⟩ := h.why i j hi hj
  refine ⟨p, by rw [hc]; exact h1, fun hf => ?_⟩
  obtain ⟨d, e, hd⟩ := h2 hf
  exact ⟨d, e, hd.but' hm hb⟩

/-- Why no numbers fit. -/
inductive NoT (l : List AM) (n : Nat) : Tr → Prop
  | ring {X : Tr} (h : Ring l n X) : NoT l n X
  | wedge {i : Nat} {c c' : Int} {Xa Xb : Tr} {p p' : List Nat} (hi : i < 2 * n) (h : Why l i (ot i) c Xa p) (hs : Simple (2 * n) i (ot i) p) (h' : Why l (ot i) i c' Xb p') (hs' : Simple (2 * n) (ot i) i p') (hlt : c / 2 + c' / 2 < 0) : NoT l n (.sum (.half Xa) (.half Xb))

theorem NoT.noposs {l : List AM} {n : Nat} {Mx : Int} (ok : ∀ a, a ∈ l → Ok n Mx a) {X : Tr} (h : NoT l n X) : possB l = false := by
  cases e : possB l with
  | false => rfl
  | true =>
    obtain ⟨x, hx⟩ := possB_iff.1 e
    cases h with
    | ring h =>
      obtain ⟨i, k, c, c', Xa, Xb, p, p', _, _, _, _, h1, _, h2, _, hlt⟩ := h.ex
      have := h1.sound ok hx; have := h2.sound ok hx; omega
    | wedge hi h1 _ h2 _ hlt =>
      have a1 := h1.sound ok hx; have a2 := h2.sound ok hx
      rw [vl_ot] at a1 a2
      omega

/-- What is told of each end. -/
def topD (D : Nat → Nat → Int) (i : Nat) : Int := if D i (ot i) = FF then FF else D i (ot i) / 2
structure Tops (n : Nat) (D : Nat → Nat → Int) (T : Nat → Nat → Tr) (tp : Nat → Int) (ty : Nat → Option Addr) (k : Nat) (w : World) : Prop where
  bd : ∀ i, i < 24 → -FF ≤ tp i ∧ tp i ≤ FF
  most : ∀ i, i < k → tp i = topD D i
  why : ∀ i, i < k → D i (ot i) ≠ FF → ∃ d, ty i = some ⟨d, 0, none⟩ ∧ IsD w (.half (T i (ot i))) d
theorem Tops.below {n k : Nat} {D : Nat → Nat → Int} {T : Nat → Nat → Tr} {tp : Nat → Int} {ty : Nat → Option Addr} {w w' : World} (h : Tops n D T tp ty k w) (hb : Below w.heap.size w w') : Tops n D T tp ty k w' :=
  ⟨h.bd, h.most, fun i hi hf => by obtain ⟨d, e, hd⟩ := h.why i hi hf; exact ⟨d, e, hd.below hb⟩⟩

theorem Tops.but {n k K : Nat} {D : Nat → Nat → Int} {T : Nat → Nat → Tr} {tp : Nat → Int} {ty : Nat → Option Addr} {w w' : World} (h : Tops n D T tp ty k w) (hm : NotD w K) (hb : But K w w') : Tops n D T tp ty k w' :=
  ⟨h.bd, h.most, fun i hi hf => by obtain ⟨d, e, hd⟩ := h.why i hi hf; exact ⟨d, e, hd.but' hm hb⟩⟩
theorem butRow (w : World) (g : Nat) (cs : Array Value) : But g w (w.setRow g cs) := ⟨rfl, rfl, rfl, by simp, fun k _ hk => setRow_other w g k cs hk⟩
theorem CS.notD {w : World} {c n M : Nat} {no : Option Addr} {tp : Nat → Int} {ty : Nat → Option Addr} (h : CS w c n M no tp ty) : NotD w c := by obtain ⟨C, r, v⟩ := h.ex; exact r.notD

/-- What holds while shut goes over the ends. -/
structure SL (l : List AM) (n : Nat) (w : World) (D : Nat → Nat → Int) (T : Nat → Nat → Tr) (r c M i : Nat) (wx : World) : Prop where
  bel : Below w.heap.size w wx
  mat : Mat wx M D T
  row : ∃ R, Row51 wx r R
  cs : ∃ tp ty, CS wx c n M none tp ty ∧ Tops n D T tp ty i wx
theorem SL.below {l : List AM} {n : Nat} {w : World} {D : Nat → Nat → Int} {T : Nat → Nat → Tr} {r c M i : Nat} {wx wy : World} (h : SL l n w D T r c M i wx) (hb : Below wx.heap.size wx wy) : SL l n w D T r c M i wy := by
  obtain ⟨h1, h2, ⟨R, h3⟩, tp, ty, h4, h5⟩ := h
  exact ⟨h1.step (hb.mono (Nat.le_refl _)), h2.below hb, ⟨R, h3.below hb⟩, tp, ty, h4.below hb, h5.below hb⟩

theorem butTop (w : World) (c i : Nat) (t : Int) (p : Option Addr) : But c w ((w.setCell ⟨c, 2 + i * 2, none⟩ (.int .i64 t)).setCell ⟨c, 2 + i * 2 + 1, none⟩ (.pointer p)) := ((But.refl c w).set _ _).set _ _
theorem SL.top {l : List AM} {n : Nat} {w : World} {D : Nat → Nat → Int} {T : Nat → Nat → Tr} {r c M i : Nat} {wx : World} (h : SL l n w D T r c M i wx) (hi : i < 24) (hc : w.heap.size ≤ c) (hcM : c ≠ M) (hrc : r ≠ c) (t : Int) (htb : -FF ≤ t ∧ t ≤ FF) (p : Option Addr) :
    SL l n w D T r c M i ((wx.setCell ⟨c, 2 + i * 2, none⟩ (.int .i64 t)).setCell ⟨c, 2 + i * 2 + 1, none⟩ (.pointer p)) := by
  obtain ⟨h1, h2, ⟨R, h3⟩, tp, ty, h4, h5⟩ := h
  have hb := butTop wx c i t p
  refine ⟨(h1.setCell hc _).setCell hc _, h2.but h4.notD hb (Ne.symm hcM), ⟨R, h3.but hb hrc⟩, _, _, h4.setTop hi t p, ?_⟩
  have h6 := h5.but h4.notD hb
  refine ⟨fun j hj => by (by_cases e : j = i); (· simp only [e, if_true]; exact htb); (· simp only [e, if_false]; exact h6.bd j hj), fun j hj => ?_, fun j hj hf => ?_⟩
  · have : j ≠ i := by omega
    simp only [this, if_false]; exact h6.most j hj
  · have : j ≠ i := by omega
    simp only [this, if_false]; exact h6.why j hj hf
theorem SL.topDone {l : List AM} {n : Nat} {w : World} {D : Nat → Nat → Int} {T : Nat → Nat → Tr} {r c M i : Nat} {wx : World} (h : SL l n w D T r c M i wx) (hi : i < 24) (hc : w.heap.size ≤ c) (hcM : c ≠ M) (hrc : r ≠ c) (t : Int) (htb : -FF ≤ t ∧ t ≤ FF) (p : Option Addr)
    (ht : t = topD D i) (hp : D i (ot i) ≠ FF → ∃ d, p = some ⟨d, 0, none⟩ ∧ IsD wx (.half (T i (ot i))) d) :
    SL l n w D T r c M (i + 1) ((wx.setCell ⟨c, 2 + i * 2, none⟩ (.int .i64 t)).setCell ⟨c, 2 + i * 2 + 1, none⟩ (.pointer p)) := by
  obtain ⟨h1, h2, ⟨R, h3⟩, tp, ty, h4, h5⟩ := h
  have hb := butTop wx c i t p
  refine ⟨(h1.setCell hc _).setCell hc _, h2.but h4.notD hb (Ne.symm hcM), ⟨R, h3.but hb hrc⟩, _, _, h4.setTop hi t p, ?_⟩
  have h6 := h5.but h4.notD hb
  refine ⟨fun j hj => by (by_cases e : j = i); (· simp only [e, if_true]; exact htb); (· simp only [e, if_false]; exact h6.bd j hj), fun j hj => ?_, fun j hj hf => ?_⟩
  · by_cases e : j = i
    · subst e; simp only [if_true]; exact ht
    · simp only [e, if_false]; exact h6.most j (by omega)
  · by_cases e : j = i
    · subst e; simp only [if_true]
      obtain ⟨d, e, hd⟩ := hp hf
      exact ⟨d, e, hd.but' h4.notD hb⟩
    · simp only [e, if_false]; exact h6.why j (by omega) hf

theorem SL.topNew {l : List AM} {n : Nat} {w : World} {D : Nat → Nat → Int} {T : Nat → Nat → Tr} {r c M i : Nat} {wx wy : World} (h : SL l n w D T r c M i wx) (hi : i < 24) (hc : w.heap.size ≤ c) (hcM : c ≠ M) (hrc : r ≠ c) (t : Int) (htb : -FF ≤ t ∧ t ≤ FF) (p : Option Addr)
    (hb : Below ((wx.setCell ⟨c, 2 + i * 2, none⟩ (.int .i64 t)).setCell ⟨c, 2 + i * 2 + 1, none⟩ (.pointer p)).heap.size ((wx.setCell ⟨c, 2 + i * 2, none⟩ (.int .i64 t)).setCell ⟨c, 2 + i * 2 + 1, none⟩ (.pointer p)) wy)
    (ht : t = topD D i) (hp : D i (ot i) ≠ FF → ∃ d, p = some ⟨d, 0, none⟩ ∧ IsD wy (.half (T i (ot i))) d) : SL l n w D T r c M (i + 1) wy := by
  have h0 := (h.top hi hc hcM hrc t htb p).below hb
  obtain ⟨h1, h2, ⟨R, h3⟩, _, _, _, _⟩ := h0
  obtain ⟨_, _, _, tp, ty, h4, h5⟩ := h
  refine ⟨h1, h2, ⟨R, h3⟩, _, _, (h4.setTop hi t p).below hb, ?_⟩
  have h6 := h5.but h4.notD (butTop wx c i t p)
  have h7 := h6.below hb
  refine ⟨fun j hj => by (by_cases e : j = i); (· simp only [e, if_true]; exact htb); (· simp only [e, if_false]; exact h7.bd j hj), fun j hj => ?_, fun j hj hf => ?_⟩
  · by_cases e : j = i
    · subst e; simp only [if_true]; exact ht
    · simp only [e, if_false]; exact h7.most j (by omega)
  · by_cases e : j = i
    · subst e; simp only [if_true]; exact hp hf
    · simp only [e, if_false]; exact h7.why j (by omega) hf

/-- What shut returns. -/
def ShutPost (l : List AM) (n : Nat) (Mx : Int) (w : World) (e : Ending) (w' : World) : Prop :=
  Below w.heap.size w w' ∧ ∃ C M no tp ty D T, e = .returned (.agg C) ∧ CV C n M no tp ty ∧ Mat w' M D T ∧ (∀ i, i < 24 → -FF ≤ tp i ∧ tp i ≤ FF) ∧
    ((∃ d X, no = some ⟨d, 0, none⟩ ∧ IsD w' X d ∧ NoT l n X) ∨ (no = none ∧ Fin FF Mx l n D T ∧ Tight FF n D ∧ Tops n D T tp ty (2 * n) w'))
end Go.Proofs.Ytnjbahiaelehkaa
