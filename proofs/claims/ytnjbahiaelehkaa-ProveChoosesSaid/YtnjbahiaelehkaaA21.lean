/- steps: the list of steps that a derivation gives. -/
import Derived.Test.YtnjbahiaelehkaaA20
import Derived.Test.YtnjbahiaelehkaaM5
import Derived.Maps.Own
namespace Go.Proofs.Ytnjbahiaelehkaa
open Go.RowKit

def s3 (s : Stp) : List Value := [.int .i64 s.K, .int .i64 s.A, .int .i64 s.B]
theorem s3_length (l : List Stp) : (l.flatMap s3).length = l.length * 3 := by
  induction l with
  | nil => rfl
  | cons x l ih =>
    rw [List.flatMap_cons, List.length_append, ih, List.length_cons]
    have h : (s3 x).length = 3 := rfl
    omega
def OwnS (w : World) (base : Nat) (v : Value) (S : List Stp) : Prop := w.ownsRow base 166 3 v S.length (S.flatMap s3)
theorem IsD.obj {w : World} {X : Tr} {d : Nat} (h : IsD w X d) : Obj164 w d := by
  cases X with
  | line i => exact ⟨_, h⟩
  | sum x y =>
    obtain ⟨a, b, h, _⟩ := h
    exact ⟨_, h⟩
  | half x =>
    obtain ⟨a, h, _⟩ := h
    exact ⟨_, h⟩
theorem cells_inj {c c' : Array Value} {e e' : TypeId} {f f' : Nat × Nat} (h : some (Obj.cells c e f) = some (Obj.cells c' e' f')) : c = c' ∧ e = e' := by
  injection h with h
  injection h with h1 h2 h3
  exact ⟨h1, h2⟩
theorem IsD.same {w : World} : ∀ {X Y : Tr} {d : Nat}, IsD w X d → IsD w Y d → nodes X = nodes Y ∧ X = Y
  | .line i, .line j, d, h, h' => by
    have := (cells_inj (h.symm.trans h')).1
    simp at this
    have e : i = j := by omega
    rw [e]
    exact ⟨rfl, rfl⟩
  | .line i, .sum x y, d, h, ⟨a, b, h', _⟩ => by
    have := (cells_inj (h.symm.trans h')).1
    simp at this
  | .line i, .half x, d, h, ⟨a, h', _⟩ => by
    have := (cells_inj (h.symm.trans h')).1
    simp at this
  | .sum x y, .line i, d, ⟨a, b, h, _⟩, h' => by
    have := (cells_inj (h.symm.trans h')).1
    simp at this
  | .sum x y, .sum x' y', d, ⟨a, b, h, hx, hy⟩, ⟨a', b', h', hx', hy'⟩ => by
    have := (cells_inj (h.symm.trans h')).1
    simp at this
    obtain ⟨rfl, rfl⟩ := this
    rw [(IsD.same hx hx').2, (IsD.same hy hy').2]
    exact ⟨rfl, rfl⟩
  | .sum x y, .half x', d, ⟨a, b, h, _⟩, ⟨a', h', _⟩ => by
    have := (cells_inj (h.symm.trans h')).1
    simp at this
  | .half x, .line i, d, ⟨a, h, _⟩, h' => by
    have := (cells_inj (h.symm.trans h')).1
    simp at this
  | .half x, .sum x' y', d, ⟨a, h, _⟩, ⟨a', b', h', _⟩ => by
    have := (cells_inj (h.symm.trans h')).1
    simp at this
  | .half x, .half x', d, ⟨a, h, hx⟩, ⟨a', h', hx'⟩ => by
    have := (cells_inj (h.symm.trans h')).1
    simp at this
    subst this
    rw [(IsD.same hx hx').2]
    exact ⟨rfl, rfl⟩

/-- The state of steps: the list so far, and which derivation stands where. -/
structure St (w0 : World) (ts tm tf bm : Nat) (S : List Stp) (m : List (Nat × Nat)) (v : Value) (w : World) : Prop where
  own : OwnS w w0.heap.size v S
  cs : w.heap[ts]? = some (.cells #[v] 63 (0, 0))
  cm : w.heap[tm]? = some (.cells #[.map (some bm)] 159 (0, 0))
  cf : w.heap[tf]? = some (.cells #[.func (.func 110) #[] #[.pointer (some ⟨tm, 0, none⟩), .pointer (some ⟨tf, 0, none⟩), .pointer (some ⟨ts, 0, none⟩)]] 160 (0, 0))
  pm : PM w bm m
  below : Below w0.heap.size w0 w
  has : ∀ p, p ∈ m → ∃ Y, IsD w0 Y p.1 ∧ Lin S p.2 Y
  bts : w0.heap.size ≤ ts
  bbm : w0.heap.size ≤ bm

/-- The list has grown by steps of parts of X, the step k says X. -/
structure LinT (S S1 : List Stp) (k : Nat) (X : Tr) : Prop where
  lin : Lin (S ++ S1) k X
  all : ∀ i, S.length ≤ i → i < (S ++ S1).length → ∃ Y, Sub Y X ∧ Lin (S ++ S1) i Y
  last : S1 = [] ∨ k + 1 = (S ++ S1).length
theorem LinT.nil {S : List Stp} {k : Nat} {X : Tr} (h : Lin S k X) : LinT S [] k X := by
  refine ⟨by rw [List.append_nil]; exact h, fun i h1 h2 => ?_, .inl rfl⟩
  rw [List.append_nil] at h2
  omega
theorem at_end (S : List Stp) (s : Stp) : (S ++ [s])[S.length]? = some s := by simp
theorem LinT.line (S : List Stp) (i : Nat) : LinT S [⟨1, i, 0⟩] S.length (.line i) := by
  refine ⟨at_end _ _, fun j h1 h2 => ?_, .inr (by simp)⟩
  rw [List.length_append, List.length_singleton] at h2
  have e : j = S.length := by omega
  subst e
  exact ⟨_, .refl _, at_end _ _⟩
theorem LinT.half {S S1 : List Stp} {k : Nat} {x : Tr} (h : LinT S S1 k x) : LinT S (S1 ++ [⟨3, k, 0⟩]) (S ++ S1).length (.half x) := by
  have hl : Lin (S ++ S1 ++ [⟨3, k, 0⟩]) (S ++ S1).length (.half x) := ⟨k, at_end _ _, h.lin.lt, h.lin.more⟩
  refine ⟨by rw [← List.append_assoc]; exact hl, fun j h1 h2 => ?_, .inr (by simp; omega)⟩
  rw [← List.append_assoc] at h2 ⊢
  by_cases hj : j < (S ++ S1).length
  · obtain ⟨Y, hs, hY⟩ := h.all j h1 hj
    exact ⟨Y, .down hs, hY.more⟩
  · rw [List.length_append, List.length_singleton] at h2
    have e : j = (S ++ S1).length := by omega
    subst e
    exact ⟨_, .refl _, hl⟩
theorem LinT.sum {S S1 S2 : List Stp} {k k' : Nat} {x y : Tr} (h : LinT S S1 k x) (h' : LinT (S ++ S1) S2 k' y) : LinT S (S1 ++ S2 ++ [⟨2, k, k'⟩]) (S ++ S1 ++ S2).length (.sum x y) := by
  have hl : Lin (S ++ S1 ++ S2 ++ [⟨2, k, k'⟩]) (S ++ S1 ++ S2).length (.sum x y) := by
    refine ⟨k, k', at_end _ _, ?_, h'.lin.lt, h.lin.more.more, h'.lin.more⟩
    have := h.lin.lt
    rw [List.length_append]
    omega
  have e0 : S ++ (S1 ++ S2 ++ [(⟨2, k, k'⟩ : Stp)]) = S ++ S1 ++ S2 ++ [⟨2, k, k'⟩] := by simp
  refine ⟨by rw [e0]; exact hl, fun j h1 h2 => ?_, .inr (by simp; omega)⟩
  rw [e0] at h2 ⊢
  by_cases hj : j < (S ++ S1).length
  · obtain ⟨Y, hs, hY⟩ := h.all j h1 hj
    exact ⟨Y, .left hs, hY.more.more⟩
  · by_cases hj' : j < (S ++ S1 ++ S2).length
    · obtain ⟨Y, hs, hY⟩ := h'.all j (by omega) hj'
      exact ⟨Y, .right hs, hY.more⟩
    · rw [List.length_append, List.length_singleton] at h2
      have e : j = (S ++ S1 ++ S2).length := by omega
      subst e
      exact ⟨_, .refl _, hl⟩

/-- What one call of add leaves. -/
def Added (w0 : World) (ts tm tf bm : Nat) (S : List Stp) (m : List (Nat × Nat)) (v : Value) (w : World) (X : Tr) (e : Ending) (w' : World) : Prop :=
  ∃ S1 m' v' k, e = .returned (.int .i64 ((k : Nat) : Int)) ∧ LinT S S1 k X ∧ S1.length ≤ nodes X ∧ St w0 ts tm tf bm (S ++ S1) m' v' w' ∧ (∀ p, p ∈ m' → p ∈ m ∨ ∃ Y, IsD w0 Y p.1 ∧ nodes Y ≤ nodes X) ∧
    w.heap.size ≤ w'.heap.size ∧ (∀ b, b < w.heap.size → b ≠ ts → b ≠ bm → v.ownBlock ≠ some b → w'.heap[b]? = w.heap[b]? ∧ v'.ownBlock ≠ some b)

theorem look_mem {m : List (Nat × Nat)} {d k : Nat} (h : look m d = some k) : (d, k) ∈ m := by
  unfold look at h
  rw [Option.map_eq_some_iff] at h
  obtain ⟨p, hp, rfl⟩ := h
  have h1 := List.find?_some hp
  have h2 := List.mem_of_find?_eq_some hp
  have e : p.1 = d := by simpa using h1
  rw [← e]
  exact h2
theorem look_none {m : List (Nat × Nat)} {d : Nat} (h : ∀ p, p ∈ m → p.1 ≠ d) : look m d = none := by
  unfold look
  rw [Option.map_eq_none_iff, List.find?_eq_none]
  intro p hp
  simpa using h p hp
theorem look_not {m : List (Nat × Nat)} {d : Nat} (h : look m d = none) (p : Nat × Nat) (hp : p ∈ m) : p.1 ≠ d := by
  unfold look at h
  rw [Option.map_eq_none_iff, List.find?_eq_none] at h
  simpa using h p hp

theorem add_hit (w0 : World) (ts tm tf bm : Nat) (X : Tr) (d : Nat) (S : List Stp) (m : List (Nat × Nat)) (v : Value) (w : World) (hd : IsD w0 X d) (st : St w0 ts tm tf bm S m v w) (k : Nat) (hl : look m d = some k) :
    Calls Try.prog 110 #[.pointer (some ⟨d, 0, none⟩), .pointer (some ⟨tm, 0, none⟩), .pointer (some ⟨tf, 0, none⟩), .pointer (some ⟨ts, 0, none⟩)] w (Added w0 ts tm tf bm S m v w X) := by
  have hdw := hd.below st.below
  have ho : ∀ p, p ∈ m → Obj164 w p.1 := fun p hp => by
    obtain ⟨Y, hY, _⟩ := st.has p hp
    exact (hY.below st.below).obj
  have hl1 := run_lookup_pm w bm d m st.pm hdw.obj ho true
  rw [hl] at hl1
  simp only [if_true, Option.getD_some, Option.isSome_some] at hl1
  have hcm : w.cell? ⟨tm, 0, none⟩ = some (.map (some bm)) := by rw [cell_of_row _ _ _ _ _ _ st.cm]; rfl
  have HST := hid st
  have HD := hid hd
  have HL := hid hl
  clear ho st hdw hd hl
  go_enter Try.func110, Try.ntmps110
  go_wp2
  go_ret
  have st := HST.out
  obtain ⟨Y, hY, hlin⟩ := st.has _ (look_mem HL.out)
  have e := (IsD.same HD.out hY).2
  refine ⟨[], m, v, k, rfl, ?_, Nat.zero_le _, ?_, fun p hp => .inl hp, Nat.le_refl _, fun b _ _ _ h => ⟨rfl, h⟩⟩
  · rw [e]
    exact .nil hlin
  · rw [List.append_nil]
    exact st

theorem own_kind {w : World} {base : Nat} {v : Value} {S : List Stp} (h : OwnS w base v S) {b : Nat} {o : Obj} (hb : w.heap[b]? = some o) (ho : ∀ c f, o ≠ .cells c 166 f) : v.ownBlock ≠ some b := by
  rcases h.2 with ⟨rfl, _⟩ | ⟨g, cap, cur, rfl, hg, hh, _⟩
  · intro h
    cases h
  · intro h
    have e : g = b := by
      injection h
    subst e
    rw [hh] at hb
    injection hb with hb
    exact ho cur (0, 0) hb.symm
theorem own_later {w w' : World} {base : Nat} {e : TypeId} {sz : Nat} {v : Value} {n : Nat} {xs : List Value} (h : w.ownsRow base e sz v n xs) (hk : ∀ b, v.ownBlock = some b → b < w.heap.size → w'.heap[b]? = w.heap[b]?) : w'.ownsRow base e sz v n xs := by
  refine ⟨h.1, ?_⟩
  rcases h.2 with ⟨rfl, h0⟩ | ⟨g, cap, cur, rfl, hg, hh, h1⟩
  · exact .inl ⟨rfl, h0⟩
  · exact .inr ⟨g, cap, cur, rfl, hg, by rw [hk g rfl (lt_of_heap hh)]; exact hh, h1⟩
theorem own_lt {w : World} {base : Nat} {e : TypeId} {sz : Nat} {v : Value} {n : Nat} {xs : List Value} (h : w.ownsRow base e sz v n xs) : ∀ b, v.ownBlock = some b → b < w.heap.size := by
  rcases h.2 with ⟨rfl, h0⟩ | ⟨g, cap, cur, rfl, hg, hh, h1⟩
  · intro b hb
    cases hb
  · intro b hb
    cases hb
    exact lt_of_heap hh
theorem PM.later {w w' : World} {r : Nat} {m : List (Nat × Nat)} (h : PM w r m) (hb : w'.heap[r]? = w.heap[r]?) : PM w' r m := by
  obtain ⟨es, clock, hh, he⟩ := h
  exact ⟨es, clock, by rw [hb]; exact hh, he⟩
theorem PM.lt {w : World} {r : Nat} {m : List (Nat × Nat)} (h : PM w r m) : r < w.heap.size := by
  obtain ⟨es, clock, hh, he⟩ := h
  exact lt_of_heap hh
theorem St.later {w0 : World} {ts tm tf bm : Nat} {S : List Stp} {m : List (Nat × Nat)} {v : Value} {w w' : World} (h : St w0 ts tm tf bm S m v w) (hb : Below w.heap.size w w') : St w0 ts tm tf bm S m v w' where
  own := own_later h.own fun b _ hl => hb.block b hl
  cs := by rw [hb.block ts (lt_of_heap h.cs)]; exact h.cs
  cm := by rw [hb.block tm (lt_of_heap h.cm)]; exact h.cm
  cf := by rw [hb.block tf (lt_of_heap h.cf)]; exact h.cf
  pm := h.pm.later (hb.block bm h.pm.lt)
  below := h.below.trans (hb.mono h.below.size)
  has := h.has
  bts := h.bts
  bbm := h.bbm

theorem setCell_at {w : World} {b : Nat} {c : Array Value} {e : TypeId} {f : Nat × Nat} (h : w.heap[b]? = some (.cells c e f)) (v : Value) : (w.setCell ⟨b, 0, none⟩ v).heap[b]? = some (.cells (c.setIfInBounds 0 v) e f) := by
  rw [Go.Sort.setCell_eq]
  simp [Go.Sort.mapBlock, Array.getElem?_modify, h, Go.Sort.onCells]
theorem cell_three_new (w : World) (a b c : Value) (t : TypeId) : ∀ j u, [a, b, c][j]? = some u → (w.alloc (.cells #[a, b, c] t)).cell? ((⟨w.heap.size, 0, none⟩ : Addr).add j) = some u := by
  intro j u hj
  match j, hj with
  | 0, hj => simp at hj; subst hj; simp [Addr.add]
  | 1, hj => simp at hj; subst hj; simp [Addr.add]
  | 2, hj => simp at hj; subst hj; simp [Addr.add]
  | j + 3, hj => simp at hj
theorem info166 : (Try.prog.info? 166).map (fun i => (i.zero, i.size, i.bytes)) = some (some (.agg #[.int .i64 0, .int .i64 0, .int .i64 0]), 3, 24) := by kernel_rfl
theorem put_cell {wc w3 : World} {o : Obj} {v : Value} {ts : Nat} (hg : (wc.alloc o).grownBy w3 v.ownBlock) (hl : ts < wc.heap.size) (hv : v.ownBlock ≠ some ts) (h : wc.heap[ts]? = some (.cells #[v] 63 (0, 0))) : w3.cell? ⟨ts, 0, none⟩ = some v ∧ w3.frozen? ⟨ts, 0, none⟩ = false := by
  have e : w3.heap[ts]? = some (.cells #[v] 63 (0, 0)) := by
    rw [hg.block ts (by simp; omega) (fun h => hv h.symm), ← h]
    exact heapo _ _ _ (by omega)
  exact ⟨by rw [cell_of_row _ _ _ _ _ _ e]; rfl, by simp [World.frozen?, e]⟩
theorem own_slice {w : World} {base : Nat} {e : TypeId} {sz : Nat} {v : Value} {n : Nat} {xs : List Value} (h : w.ownsRow base e sz v (n + 1) xs) : ∃ g cap, v = .slice (some ⟨g, 0, none⟩) (n + 1) cap := by
  rcases h.2 with ⟨_, h0⟩ | ⟨g, cap, cur, rfl, _⟩
  · omega
  · exact ⟨g, cap, rfl⟩
/-- A step was appended to the list, and no more. -/
def Put (w0 : World) (ts : Nat) (S : List Stp) (v : Value) (s : Stp) (wc wx : World) (v' : Value) : Prop :=
  OwnS wx w0.heap.size v' (S ++ [s]) ∧ wx.heap[ts]? = some (.cells #[v'] 63 (0, 0)) ∧ wc.heap.size ≤ wx.heap.size ∧ Below w0.heap.size w0 wx ∧ ∀ b, b < wc.heap.size → b ≠ ts → v.ownBlock ≠ some b → wx.heap[b]? = wc.heap[b]? ∧ v'.ownBlock ≠ some b
theorem Put.mk' {w0 : World} {ts tm tf bm : Nat} {S : List Stp} {m : List (Nat × Nat)} {v v' : Value} {s : Stp} {wc w3 : World} {o : Obj} (st : St w0 ts tm tf bm S m v wc) (hown : w3.ownsRow w0.heap.size 166 3 v' (S.length + 1) (S.flatMap s3 ++ s3 s)) (hg : (wc.alloc o).grownBy w3 v.ownBlock)
    (hat : v'.ownBlock = v.ownBlock ∨ v'.ownBlock = some (wc.alloc o).heap.size) : Put w0 ts S v s wc (w3.setCell ⟨ts, 0, none⟩ v') v' := by
  have hso : (wc.alloc o).heap.size = wc.heap.size + 1 := by simp
  have hts := lt_of_heap st.cs
  have hvt : v.ownBlock ≠ some ts := own_kind st.own st.cs (by intro c f h; injection h with _ h _; cases h)
  have hs3 := hg.size
  have hw3 : ∀ b, b < wc.heap.size → v.ownBlock ≠ some b → w3.heap[b]? = wc.heap[b]? := fun b hb hne => by
    rw [hg.block b (by omega) (fun h => hne h.symm)]
    exact heapo _ _ _ (by omega)
  have hv't : v'.ownBlock ≠ some ts := fun h => by
    rcases hat with hat | hat
    · exact hvt (by rw [← hat]; exact h)
    · rw [hat] at h
      injection h with h
      omega
  have hcs3 : w3.heap[ts]? = some (.cells #[v] 63 (0, 0)) := by rw [hw3 ts hts hvt]; exact st.cs
  refine ⟨?_, ?_, ?_, ?_, fun b hb hne hnv => ⟨?_, ?_⟩⟩
  · have h1 := own_later (w' := w3.setCell ⟨ts, 0, none⟩ v') hown (fun b hb _ => Below.heap_setCell _ _ _ _ (fun h => hv't (by rw [hb]; exact congrArg some h)))
    unfold OwnS
    rw [List.length_append, List.flatMap_append]
    simpa using h1
  · rw [setCell_at hcs3]
    rfl
  · have e : (w3.setCell ⟨ts, 0, none⟩ v').heap.size = w3.heap.size := by simp
    omega
  · exact ((st.below.alloc st.below.size o).grown hg (by rw [hso]; have := st.below.size; omega) (fun k hk => own_ge st.own k hk)).setCell st.bts v'
  · rw [Below.heap_setCell _ _ _ _ (by exact hne)]
    exact hw3 b hb hnv
  · intro h
    rcases hat with hat | hat
    · exact hnv (by rw [← hat]; exact h)
    · rw [hat] at h
      injection h with h
      omega

theorem own_slice' {w : World} {base : Nat} {v : Value} {S : List Stp} {s : Stp} (h : OwnS w base v (S ++ [s])) : ∃ g cap, v = .slice (some ⟨g, 0, none⟩) (S ++ [s]).length cap := by
  rcases h.2 with ⟨_, h0⟩ | ⟨g, cap, cur, rfl, _⟩
  · simp at h0
  · exact ⟨g, cap, rfl⟩
theorem Put.mid {w0 : World} {ts tm tf bm : Nat} {S : List Stp} {m : List (Nat × Nat)} {v v' : Value} {s : Stp} {wc wx : World} (h : Put w0 ts S v s wc wx v') (st : St w0 ts tm tf bm S m v wc) :
    wx.heap[tm]? = some (.cells #[.map (some bm)] 159 (0, 0)) ∧ wx.heap[tf]? = some (.cells #[.func (.func 110) #[] #[.pointer (some ⟨tm, 0, none⟩), .pointer (some ⟨tf, 0, none⟩), .pointer (some ⟨ts, 0, none⟩)]] 160 (0, 0)) ∧ PM wx bm m ∧ Below w0.heap.size w0 wx := by
  obtain ⟨h1, h2, h3, h4, h5⟩ := h
  have ne : ∀ {b : Nat} {o : Obj}, wc.heap[b]? = some o → (∀ c f, o ≠ .cells c 63 f) → b ≠ ts := fun hb ho e => by
    subst e
    rw [st.cs] at hb
    injection hb with hb
    exact ho _ _ hb.symm
  refine ⟨?_, ?_, ?_, h4⟩
  · rw [(h5 tm (lt_of_heap st.cm) (ne st.cm (by intro c f h; injection h with _ h _; cases h)) (own_kind st.own st.cm (by intro c f h; injection h with _ h _; cases h))).1]
    exact st.cm
  · rw [(h5 tf (lt_of_heap st.cf) (ne st.cf (by intro c f h; injection h with _ h _; cases h)) (own_kind st.own st.cf (by intro c f h; injection h with _ h _; cases h))).1]
    exact st.cf
  · obtain ⟨es, clock, hh, he⟩ := st.pm
    refine st.pm.later (h5 bm (lt_of_heap hh) (ne hh (by intro c f h; cases h)) (own_kind st.own hh (by intro c f h; cases h))).1

theorem wpList_update_run {P : Program} (w w1 : World) {ops : Array Oper} {rest : List Oper} {o : Oper} {a : Act} {Q : Exit → Act → World → Prop} (hg : o.guard = none) (m x v : Operand) (t : TypeId) (hop : o.op = Op.mapUpdate t m x v)
    (hrun : (Instr.mapUpdate t (a.eval m) (a.eval x) (a.eval v)).run P w = .ok () w1) (hK : wpList P ops Q rest (a.put o.dst undef) w1) : wpList P ops Q (o :: rest) a w := by
  refine wpList_plain hg fun K' hK' => ?_
  unfold Oper.wp
  simp [execOp, hop, hrun, Result.andThen]
  exact hK' _ _ hK
theorem upd_cm {wx w4 : World} {tm bm : Nat} {m : List (Nat × Nat)} (h : wx.heap[tm]? = some (.cells #[.map (some bm)] 159 (0, 0))) (hp : PM wx bm m) (hg : wx.grownBy w4 (some bm)) : w4.cell? ⟨tm, 0, none⟩ = some (.map (some bm)) := by
  have hne : tm ≠ bm := fun e => by
    subst e
    obtain ⟨es, clock, hh, _⟩ := hp
    rw [h] at hh
    cases hh
  have e : w4.heap[tm]? = some (.cells #[.map (some bm)] 159 (0, 0)) := by
    rw [hg.block tm (lt_of_heap h) (fun h => hne (by injection h))]
    exact h
  rw [cell_of_row _ _ _ _ _ _ e]
  rfl
theorem look_end {m : List (Nat × Nat)} {d k : Nat} (h : look m d = none) : look (m ++ [(d, k)]) d = some k := by
  unfold look at h ⊢
  rw [Option.map_eq_none_iff] at h
  rw [List.find?_append, h]
  simp
theorem upd_look {w0 wc wx w4 : World} {ts tm tf bm d : Nat} {X : Tr} {S : List Stp} {m : List (Nat × Nat)} {v : Value} {k : Nat} (st : St w0 ts tm tf bm S m v wc) (hd : IsD w0 X d) (hp : PM w4 bm (m ++ [(d, k)])) (hg : wx.grownBy w4 (some bm)) (hb : Below w0.heap.size w0 wx) (hl : look m d = none) :
    (Instr.lookup 159 (.map (some bm)) (.pointer (some ⟨d, 0, none⟩)) false).run Try.prog w4 = .ok (.int .i64 (k : Int)) w4 := by
  have hb4 : Below w0.heap.size w0 w4 := hb.grown hg hb.size (fun q hq => by cases hq; exact st.bbm)
  have h := run_lookup_pm w4 bm d (m ++ [(d, k)]) hp (hd.below hb4).obj (fun p hp => by
    rcases List.mem_append.1 hp with hp | hp
    · obtain ⟨Y, hY, _⟩ := st.has p hp
      exact (hY.below hb4).obj
    · rw [List.mem_singleton.1 hp]
      exact (hd.below hb4).obj) false
  rw [look_end hl] at h
  simpa using h

theorem Put.done {w0 : World} {ts tm tf bm d : Nat} {S : List Stp} {m : List (Nat × Nat)} {v v' : Value} {s : Stp} {X : Tr} {wc wx w4 : World} (h : Put w0 ts S v s wc wx v') (st : St w0 ts tm tf bm S m v wc)
    (hpm : PM w4 bm (m ++ [(d, S.length)])) (hg : wx.grownBy w4 (some bm)) (hd : IsD w0 X d) (hl : Lin (S ++ [s]) S.length X) :
    St w0 ts tm tf bm (S ++ [s]) (m ++ [(d, S.length)]) v' w4 ∧ wc.heap.size ≤ w4.heap.size ∧ ∀ b, b < wc.heap.size → b ≠ ts → b ≠ bm → v.ownBlock ≠ some b → w4.heap[b]? = wc.heap[b]? ∧ v'.ownBlock ≠ some b := by
  obtain ⟨m1, m2, m3, m4⟩ := h.mid st
  obtain ⟨h1, h2, h3, h4, h5⟩ := h
  have hs4 := hg.size
  obtain ⟨es, clock, hh, he⟩ := m3
  have keep : ∀ {b : Nat} {c : Array Value} {e : TypeId}, wx.heap[b]? = some (.cells c e (0, 0)) → w4.heap[b]? = some (.cells c e (0, 0)) := fun {b c e} hb => by
    have hne : b ≠ bm := fun e' => by
      subst e'
      rw [hb] at hh
      cases hh
    rw [hg.block b (lt_of_heap hb) (fun h => hne (by injection h))]
    exact hb
  refine ⟨⟨?_, keep h2, keep m1, keep m2, hpm, h4.grown hg h4.size (fun q hq => by cases hq; exact st.bbm), ?_, st.bts, st.bbm⟩, by omega, ?_⟩
  · refine own_later h1 fun b hb hlt => hg.block b hlt (fun e => ?_)
    have e2 : b = bm := by injection e
    subst e2
    exact own_kind h1 hh (by intro c f h; cases h) hb
  · intro p hp
    rcases List.mem_append.1 hp with hp | hp
    · obtain ⟨Y, hY, hlin⟩ := st.has p hp
      exact ⟨Y, hY, hlin.more⟩
    · rw [List.mem_singleton.1 hp]
      exact ⟨X, hd, hl⟩
  · intro b hb hn1 hn2 hn3
    obtain ⟨e1, e2⟩ := h5 b hb hn1 hn3
    exact ⟨by rw [hg.block b (by omega) (fun h => hn2 (by injection h)), e1], e2⟩

/-- A child was added: the list and the map have grown, the open step c8 holds its place. -/
def Child (w0 : World) (ts tm tf bm : Nat) (S : List Stp) (m : List (Nat × Nat)) (v : Value) (c8 j : Nat) (K A : Int) (X : Tr) (wc wx : World) : Prop :=
  ∃ S1 m' v' k, LinT S S1 k X ∧ S1.length ≤ nodes X ∧ St w0 ts tm tf bm (S ++ S1) m' v' wx ∧ (∀ p, p ∈ m' → p ∈ m ∨ ∃ Y, IsD w0 Y p.1 ∧ nodes Y ≤ nodes X) ∧ wc.heap.size ≤ wx.heap.size ∧
    (∀ b, b < wc.heap.size → b ≠ ts → b ≠ bm → b ≠ c8 → v.ownBlock ≠ some b → wx.heap[b]? = wc.heap[b]? ∧ v'.ownBlock ≠ some b) ∧ v'.ownBlock ≠ some c8 ∧
    wx.heap[c8]? = some (.cells (if j = 1 then #[.int .i64 K, .int .i64 (k : Int), .int .i64 0] else #[.int .i64 K, .int .i64 A, .int .i64 (k : Int)]) 166 (0, 0))
theorem setCell_at' {w : World} {b j : Nat} {c : Array Value} {e : TypeId} {f : Nat × Nat} (h : w.heap[b]? = some (.cells c e f)) (v : Value) : (w.setCell ⟨b, j, none⟩ v).heap[b]? = some (.cells (c.setIfInBounds j v) e f) := by
  rw [Go.Sort.setCell_eq]
  simp [Go.Sort.mapBlock, Array.getElem?_modify, h, Go.Sort.onCells]
theorem St.put8 {w0 : World} {ts tm tf bm c8 j : Nat} {S : List Stp} {m : List (Nat × Nat)} {v u : Value} {w : World} {c : Array Value} (st : St w0 ts tm tf bm S m v w) (h8 : w.heap[c8]? = some (.cells c 166 (0, 0))) (hbb : w0.heap.size ≤ c8) (hv : v.ownBlock ≠ some c8) : St w0 ts tm tf bm S m v (w.setCell ⟨c8, j, none⟩ u) := by
  have ne : ∀ {b : Nat} {o : Obj}, w.heap[b]? = some o → (∀ c f, o ≠ .cells c 166 f) → b ≠ c8 := fun hb ho e => by
    subst e
    rw [h8] at hb
    injection hb with hb
    exact ho _ _ hb.symm
  have go : ∀ {b : Nat} {o : Obj}, w.heap[b]? = some o → (∀ c f, o ≠ .cells c 166 f) → (w.setCell ⟨c8, j, none⟩ u).heap[b]? = some o := fun hb ho => by
    rw [Below.heap_setCell _ _ _ _ (by exact ne hb ho)]
    exact hb
  refine ⟨?_, go st.cs (by intro c f h; injection h with _ h _; cases h), go st.cm (by intro c f h; injection h with _ h _; cases h), go st.cf (by intro c f h; injection h with _ h _; cases h), ?_, st.below.setCell hbb u, st.has, st.bts, st.bbm⟩
  · refine own_later st.own fun b hb' hlt => Below.heap_setCell _ _ _ _ ?_
    intro e
    have e' : b = c8 := e
    subst e'
    exact hv hb'
  · obtain ⟨es, clock, hh, he⟩ := st.pm
    exact st.pm.later ((go hh (by intro c f h; cases h)).trans hh.symm)

theorem St.gets {w0 : World} {ts tm tf bm d : Nat} {S : List Stp} {m : List (Nat × Nat)} {v u : Value} {w : World} {c : Array Value} {e : TypeId} (st : St w0 ts tm tf bm S m v w) (h : w0.heap[d]? = some (.cells c e (0, 0))) (j : Nat) (hj : c[j]? = some u) : w.cell? ⟨d, j, none⟩ = some u := by
  have h' : w.heap[d]? = some (.cells c e (0, 0)) := by rw [st.below.block d (lt_of_heap h)]; exact h
  rw [cell_of_row _ _ _ _ _ _ h']
  exact hj
theorem cset_off (w : World) (b j b' j' : Nat) {u : Value} (h : b ≠ b') : (w.setCell ⟨b', j', none⟩ u).cell? ⟨b, j, none⟩ = w.cell? ⟨b, j, none⟩ := World.cell?_of_block (Below.heap_setCell _ _ _ _ (by exact h))
theorem step_cell {w : World} {c8 : Nat} {K A B : Int} (h : w.heap[c8]? = some (.cells #[.int .i64 K, .int .i64 A, .int .i64 B] 166 (0, 0))) : (w.cell? ⟨c8, 1, none⟩ = some (.int .i64 A) ∧ w.cell? ⟨c8, 2, none⟩ = some (.int .i64 B)) ∧ (w.frozen? ⟨c8, 1, none⟩ = false ∧ w.frozen? ⟨c8, 2, none⟩ = false) := by
  refine ⟨⟨?_, ?_⟩, ?_, ?_⟩
  · rw [cell_of_row _ _ _ _ _ _ h]
    rfl
  · rw [cell_of_row _ _ _ _ _ _ h]
    rfl
  · simp [World.frozen?, h]
  · simp [World.frozen?, h]

set_option maxRecDepth 100000 in
set_option maxHeartbeats 4000000 in
theorem add_any (w0 : World) (ts tm tf bm : Nat) : ∀ (X : Tr) (d : Nat) (S : List Stp) (m : List (Nat × Nat)) (v : Value) (w : World), IsD w0 X d → St w0 ts tm tf bm S m v w → S.length + nodes X ≤ 1000000 →
    Calls Try.prog 110 #[.pointer (some ⟨d, 0, none⟩), .pointer (some ⟨tm, 0, none⟩), .pointer (some ⟨tf, 0, none⟩), .pointer (some ⟨ts, 0, none⟩)] w (Added w0 ts tm tf bm S m v w X) := by
  intro X
  induction X with
  | line i =>
    intro d S m v w hd st hlen
    cases hl : look m d with
    | some k => exact add_hit w0 ts tm tf bm _ d S m v w hd st k hl
    | none =>
      have hdw := hd.below st.below
      have ho : ∀ p, p ∈ m → Obj164 w p.1 := fun p hp => by
        obtain ⟨Y, hY, _⟩ := st.has p hp
        exact (hY.below st.below).obj
      have hl1 := run_lookup_pm w bm d m st.pm hdw.obj ho true
      rw [hl] at hl1
      simp only [if_true, Option.getD_none, Option.isSome_none] at hl1
      have hcm : w.cell? ⟨tm, 0, none⟩ = some (.map (some bm)) := by rw [cell_of_row _ _ _ _ _ _ st.cm]; rfl
      have hcs : w.cell? ⟨ts, 0, none⟩ = some v := by rw [cell_of_row _ _ _ _ _ _ st.cs]; rfl
      have hfs : w.frozen? ⟨ts, 0, none⟩ = false := by simp [World.frozen?, st.cs]
      have hdw' : w.heap[d]? = some (.cells #[.int .i64 1, .int .i64 i, .pointer none, .pointer none] 164 (0, 0)) := hdw
      have hk0 : w.cell? ⟨d, 0, none⟩ = some (.int .i64 1) := by rw [cell_of_row _ _ _ _ _ _ hdw']; rfl
      have hk1 : w.cell? ⟨d, 1, none⟩ = some (.int .i64 i) := by rw [cell_of_row _ _ _ _ _ _ hdw']; rfl
      have HST := hid st
      have HD := hid hd
      have HL := hid hl
      clear ho st hdw hd hl hdw'
      go_enter Try.func110, Try.ntmps110
      go_upto_region 4 with fail
      go_cut [8] (fun s8 wx => ∃ c8 : Nat, s8 = .pointer (some ⟨c8, 0, none⟩) ∧ wx.heap[c8]? = some (.cells #[.int .i64 1, .int .i64 i, .int .i64 0] 166 (0, 0)) ∧ Below w.heap.size w wx ∧ w.heap.size ≤ c8)
      case first =>
        go_region_held3 (fun w' => w'.cell? ⟨d, 0, none⟩ = some (.int .i64 1) ∧ w'.cell? ⟨d, 1, none⟩ = some (.int .i64 i)) (go_keep) ((fail))
        all_goals (go_wp2_with fail; go_meet)
        all_goals exact ⟨_, rfl, heapn _ _ _ rfl, (bnew _ _).drew, Nat.le_refl _⟩
      case rest =>
        obtain ⟨c8, rfl, hc8, hbc, hc8'⟩ := hcut
        have hkc : wc.cell? ⟨d, 0, none⟩ = some (.int .i64 1) := cell_later hbc hk0
        have HSC := hid (HST.out.later hbc)
        have hcsc : wc.cell? ⟨ts, 0, none⟩ = some v := cell_later hbc hcs
        have h80 : wc.cell? ⟨c8, 0, none⟩ = some (.int .i64 1) := by rw [cell_of_row _ _ _ _ _ _ hc8]; rfl
        have h81 : wc.cell? ⟨c8, 1, none⟩ = some (.int .i64 i) := by rw [cell_of_row _ _ _ _ _ _ hc8]; rfl
        have h82 : wc.cell? ⟨c8, 2, none⟩ = some (.int .i64 0) := by rw [cell_of_row _ _ _ _ _ _ hc8]; rfl
        have HC8 := hid hc8
        have HBC := hid hbc
        clear hc8 hbc
        go_upto_region 9 with fail
        go_cut [] (fun wx => ∃ v', Put w0 ts S v ⟨1, i, 0⟩ wc wx v')
        case first =>
          obtain ⟨i6, hi6, hz0, hz1, hz2⟩ := info_parts info166
          have hown := HSC.out.own
          unfold OwnS at hown
          have hb9 := HSC.out.below.size
          have hl9 : S.length + 1 ≤ 1000000 := by unfold nodes at hlen; omega
          have hvt : v.ownBlock ≠ some ts := own_kind HSC.out.own HSC.out.cs (by intro c f h; injection h with _ h _; cases h)
          have htl := lt_of_heap HSC.out.cs
          go_wp2_with (at_builtin; refine wpList_append_own_at _ rfl _ _ 63 rfl w0.heap.size 166 i6 _ 3 24 Try.underlying63 hi6 hz0 hz1 hz2 rfl (by decide) _ _ _ rfl (hown.alloc _) ⟨wc.heap.size, 0, none⟩ 1 1 [.int .i64 1, .int .i64 i, .int .i64 0] rfl rfl (cell_three_new _ _ _ _ _) (by intro u hu; simp at hu; rcases hu with rfl | rfl | rfl <;> rfl) (by unfold maxLen; omega) (by omega) (by simp; omega) ?_; intro v' w3 hown' hgrow hnil hat; obtain ⟨hst, hsf⟩ := put_cell (v := v) hgrow htl hvt HSC.out.cs; obtain ⟨gg, cp, hgg⟩ := own_slice hown'; subst hgg; have HP := hid (Put.mk' (s := ⟨1, (i : Int), 0⟩) HSC.out hown' hgrow hat); clear hown' hgrow hat hnil)
          go_meet
          exact ⟨_, HP.out⟩
        case rest =>
          obtain ⟨v', hput⟩ := hcut
          have mid := hput.mid HSC.out
          obtain ⟨gg, cp, rfl⟩ := own_slice' hput.1
          have hdx := HD.out.below mid.2.2.2
          have hox : ∀ p, p ∈ m → Obj164 wc p.1 := fun p hp => by
            obtain ⟨Y, hY, _⟩ := HST.out.has p hp
            exact (hY.below mid.2.2.2).obj
          obtain ⟨w4, hu, hpm, hgr⟩ := run_update_pm wc bm d S.length m mid.2.2.1 hdx.obj hox HL.out
          have hcmx : wc.cell? ⟨tm, 0, none⟩ = some (.map (some bm)) := by rw [cell_of_row _ _ _ _ _ _ mid.1]; rfl
          have hcsx : wc.cell? ⟨ts, 0, none⟩ = some (.slice (some ⟨gg, 0, none⟩) (S ++ [(⟨1, (i : Int), 0⟩ : Stp)]).length cp) := by rw [cell_of_row _ _ _ _ _ _ hput.2.1]; rfl
          rw [List.length_append, List.length_singleton] at hcsx
          have HPUT := hid hput
          have HMID := hid mid
          have HPM := hid hpm
          have HGR := hid hgr
          clear hput mid hpm hgr hox hdx
          have hcm4 : w4.cell? ⟨tm, 0, none⟩ = some (.map (some bm)) := upd_cm HMID.out.1 HMID.out.2.2.1 HGR.out
          have hl4 : ((Instr.lookup 159 (.map (some bm)) (.pointer (some ⟨d, 0, none⟩)) false).run Try.prog w4 = .ok (.int .i64 (S.length : Int)) w4) := upd_look HST.out HD.out HPM.out HGR.out HMID.out.2.2.2 HL.out
          go_wp2_with (at_mapUpdate; refine wpList_update_run _ w4 rfl _ _ _ _ rfl (by first | exact hu | simpa using hu) ?_)
          go_ret
          have hlin : Lin (S ++ [(⟨1, (i : Int), 0⟩ : Stp)]) S.length (.line i) := by
            show (S ++ [(⟨1, (i : Int), 0⟩ : Stp)])[S.length]? = some ⟨1, i, 0⟩
            simp
          obtain ⟨r1, r2, r3⟩ := HPUT.out.done HSC.out HPM.out HGR.out HD.out hlin
          have hbs := HBC.out.size
          refine ⟨[⟨1, (i : Int), 0⟩], _, _, S.length, rfl, .line S i, Nat.le_refl _, r1, fun p hp => ?_, by omega, fun b hb hn1 hn2 hn3 => ?_⟩
          · rcases List.mem_append.1 hp with hp | hp
            · exact .inl hp
            · rw [List.mem_singleton.1 hp]
              exact .inr ⟨_, HD.out, Nat.le_refl _⟩
          · obtain ⟨e1, e2⟩ := r3 b (by omega) hn1 hn2 hn3
            exact ⟨by rw [e1, HBC.out.block b hb], e2⟩
  | sum x y ihx ihy =>
    intro d S m v w hd st hlen
    cases hl : look m d with
    | some k => exact add_hit w0 ts tm tf bm _ d S m v w hd st k hl
    | none =>
      have hdw := hd.below st.below
      have ho : ∀ p, p ∈ m → Obj164 w p.1 := fun p hp => by
        obtain ⟨Y, hY, _⟩ := st.has p hp
        exact (hY.below st.below).obj
      have hl1 := run_lookup_pm w bm d m st.pm hdw.obj ho true
      rw [hl] at hl1
      simp only [if_true, Option.getD_none, Option.isSome_none] at hl1
      have hcm : w.cell? ⟨tm, 0, none⟩ = some (.map (some bm)) := by rw [cell_of_row _ _ _ _ _ _ st.cm]; rfl
      have hcs : w.cell? ⟨ts, 0, none⟩ = some v := by rw [cell_of_row _ _ _ _ _ _ st.cs]; rfl
      have hcf : w.cell? ⟨tf, 0, none⟩ = some (.func (.func 110) #[] #[.pointer (some ⟨tm, 0, none⟩), .pointer (some ⟨tf, 0, none⟩), .pointer (some ⟨ts, 0, none⟩)]) := by rw [cell_of_row _ _ _ _ _ _ st.cf]; rfl
      have hd' := hd
      obtain ⟨c, c', h0, hx, hy⟩ := hd'
      have hdw' : w.heap[d]? = some (.cells #[.int .i64 2, .int .i64 0, .pointer (some ⟨c, 0, none⟩), .pointer (some ⟨c', 0, none⟩)] 164 (0, 0)) := by rw [st.below.block d (lt_of_heap h0)]; exact h0
      have hk0 : w.cell? ⟨d, 0, none⟩ = some (.int .i64 2) := by rw [cell_of_row _ _ _ _ _ _ hdw']; rfl
      have hk1 : w.cell? ⟨d, 1, none⟩ = some (.int .i64 0) := by rw [cell_of_row _ _ _ _ _ _ hdw']; rfl
      have hk2 : w.cell? ⟨d, 2, none⟩ = some (.pointer (some ⟨c, 0, none⟩)) := by rw [cell_of_row _ _ _ _ _ _ hdw']; rfl
      have hk3 : w.cell? ⟨d, 3, none⟩ = some (.pointer (some ⟨c', 0, none⟩)) := by rw [cell_of_row _ _ _ _ _ _ hdw']; rfl
      have HST := hid st
      have HD := hid hd
      have HL := hid hl
      have HX := hid hx
      have HY := hid hy
      have HDW := hid hdw'
      have HLEN := hid hlen
      have HD0 := hid h0
      clear ho st hdw hd hl hdw' h0 hx hy hlen
      go_enter Try.func110, Try.ntmps110
      go_upto_region 4 with fail
      go_cut [8] (fun s8 wx => ∃ c8 : Nat, s8 = .pointer (some ⟨c8, 0, none⟩) ∧ wx.heap[c8]? = some (.cells #[.int .i64 2, .int .i64 0, .int .i64 0] 166 (0, 0)) ∧ Below w.heap.size w wx ∧ w.heap.size ≤ c8)
      case first =>
        go_region_held3 (fun w' => w'.cell? ⟨d, 0, none⟩ = some (.int .i64 2) ∧ w'.cell? ⟨d, 1, none⟩ = some (.int .i64 0)) (go_keep) ((fail))
        all_goals (go_wp2_with fail; go_meet)
        all_goals exact ⟨_, rfl, heapn _ _ _ rfl, (bnew _ _).drew, Nat.le_refl _⟩
      case rest =>
        obtain ⟨c8, rfl, hc8, hbc, hc8'⟩ := hcut
        have hkc : wc.cell? ⟨d, 0, none⟩ = some (.int .i64 2) := cell_later hbc hk0
        have hkd : wc.cell? ⟨d, 2, none⟩ = some (.pointer (some ⟨c, 0, none⟩)) := cell_later hbc hk2
        have hcfc := cell_later hbc hcf
        have HSC := hid (HST.out.later hbc)
        have HC8 := hid hc8
        have HBC := hid hbc
        clear hc8 hbc
        have hl8 : c8 < wc.heap.size := lt_of_heap HC8.out
        have htf8 : tf ≠ c8 := by have := lt_of_heap HST.out.cf; omega
        have hd8 : d ≠ c8 := by have := lt_of_heap HDW.out; omega
        have hn1 : c8 ≠ ts := by have := lt_of_heap HST.out.cs; omega
        have hn2 : c8 ≠ bm := by have := HST.out.pm.lt; omega
        have hn3 : v.ownBlock ≠ some c8 := fun h => by have := own_lt HST.out.own c8 h; omega
        go_upto_region 6 with fail
        go_cut [] (fun wx => Child w0 ts tm tf bm S m v c8 1 2 0 x wc wx)
        case first =>
          go_region_held3 (fun w' => w'.cell? ⟨tf, 0, none⟩ = some (.func (.func 110) #[] #[.pointer (some ⟨tm, 0, none⟩), .pointer (some ⟨tf, 0, none⟩), .pointer (some ⟨ts, 0, none⟩)]) ∧ w'.cell? ⟨d, 2, none⟩ = some (.pointer (some ⟨c, 0, none⟩))) (first | go_keep | exact ⟨(cset_off _ _ _ _ _ htf8).trans hF5, (cset_off _ _ _ _ _ hd8).trans hG5⟩)
            ((go_at_call 110; refine (ihx c S m v _ HX.out (HSC.out.later (bdrew _)) (by have := HLEN.out; unfold nodes at this; omega)).mono ?_; rintro e w5 ⟨S1, m1, v1, k1, rfl, hlin1, hln1, st1, hm1, hsz1, hfr1⟩; have hF5 : w5.cell? ⟨tf, 0, none⟩ = some (.func (.func 110) #[] #[.pointer (some ⟨tm, 0, none⟩), .pointer (some ⟨tf, 0, none⟩), .pointer (some ⟨ts, 0, none⟩)]) := (by rw [cell_of_row _ _ _ _ _ _ st1.cf]; rfl); have hG5 : w5.cell? ⟨d, 2, none⟩ = some (.pointer (some ⟨c, 0, none⟩)) := st1.gets HD0.out 2 rfl; obtain ⟨e8, hv8⟩ := hfr1 c8 hl8 hn1 hn2 hn3; have hw8 := e8.trans HC8.out; obtain ⟨⟨hs51, hs52⟩, hz51, hz52⟩ := step_cell hw8; have HALL := hid (And.intro hlin1 (And.intro hln1 (And.intro st1 (And.intro hm1 (And.intro hsz1 (And.intro hfr1 (And.intro hw8 hv8))))))); clear hlin1 hln1 st1 hm1 hsz1 hfr1 hw8 hv8 e8))
          all_goals (go_wp2_with fail; go_meet)
          all_goals
            obtain ⟨hlin1, hln1, st1, hm1, hsz1, hfr1, hw8, hv8⟩ := HALL.out
            have hbase : w0.heap.size ≤ c8 := Nat.le_trans HST.out.below.size hc8'
            have hsz1' : wc.heap.size ≤ w5.heap.size := hsz1
            refine ⟨S1, m1, v1, k1, hlin1, hln1, st1.put8 hw8 hbase hv8, hm1, by simpa using hsz1', fun b hb h1 h2 h3 h4 => ⟨(Below.heap_setCell _ _ _ _ (by exact h3)).trans (hfr1 b hb h1 h2 h4).1, (hfr1 b hb h1 h2 h4).2⟩, hv8, ?_⟩
            rw [setCell_at' hw8]
            rfl
        case rest =>
          rename_i wp _
          obtain ⟨S1, m1, v1, k1, hlin1, hln1, st1, hm1, hsz1, hfr1, hv8, hw8⟩ := hcut
          rw [if_pos rfl] at hw8
          obtain ⟨S2, hS2⟩ : ∃ S2, S2 = S ++ S1 := ⟨_, rfl⟩
          rw [← hS2] at st1
          have HS2 := hid hS2
          clear hS2
          have HS1 := hid st1
          have hkc1 : wc.cell? ⟨d, 0, none⟩ = some (.int .i64 2) := st1.gets HD0.out 0 rfl
          have hkd1 : wc.cell? ⟨d, 3, none⟩ = some (.pointer (some ⟨c', 0, none⟩)) := st1.gets HD0.out 3 rfl
          have hcf1 : wc.cell? ⟨tf, 0, none⟩ = some (.func (.func 110) #[] #[.pointer (some ⟨tm, 0, none⟩), .pointer (some ⟨tf, 0, none⟩), .pointer (some ⟨ts, 0, none⟩)]) := by rw [cell_of_row _ _ _ _ _ _ st1.cf]; rfl
          have HFR := hid hfr1
          have HW8 := hid hw8
          have HLN := hid hln1
          have HM1 := hid hm1
          have HLIN1 := hid hlin1
          have HV8 := hid hv8
          clear hlin1 hln1 st1 hm1 hfr1 hw8 hv8 hkc hkd hcfc hl1 hcm hcs hcf hk0 hk1 hk2 hk3
          have hl8 : c8 < wc.heap.size := lt_of_heap HW8.out
          have hS2l : S2.length ≤ S.length + nodes x := by have := HLN.out; rw [HS2.out, List.length_append]; omega
          have hlen2 : S2.length + nodes y ≤ 1000000 := by have h := HLEN.out; have e2 : nodes (.sum x y) = nodes x + nodes y + 1 := rfl; omega
          go_upto_region 8 with fail
          go_cut [] (fun wx => Child w0 ts tm tf bm S2 m1 v1 c8 2 2 k1 y wc wx)
          case first =>
            go_region_held3 (fun w' => w'.cell? ⟨tf, 0, none⟩ = some (.func (.func 110) #[] #[.pointer (some ⟨tm, 0, none⟩), .pointer (some ⟨tf, 0, none⟩), .pointer (some ⟨ts, 0, none⟩)]) ∧ w'.cell? ⟨d, 3, none⟩ = some (.pointer (some ⟨c', 0, none⟩))) (first | go_keep | exact ⟨(cset_off _ _ _ _ _ htf8).trans hF5, (cset_off _ _ _ _ _ hd8).trans hG5⟩)
              ((go_at_call 110; refine (ihy c' S2 m1 v1 _ HY.out (HS1.out.later (bdrew _)) hlen2).mono ?_; rintro e w5 ⟨S3, m3, v3, k3, rfl, hlin3, hln3, st3, hm3, hsz3, hfr3⟩; have hF5 : w5.cell? ⟨tf, 0, none⟩ = some (.func (.func 110) #[] #[.pointer (some ⟨tm, 0, none⟩), .pointer (some ⟨tf, 0, none⟩), .pointer (some ⟨ts, 0, none⟩)]) := (by rw [cell_of_row _ _ _ _ _ _ st3.cf]; rfl); have hG5 : w5.cell? ⟨d, 3, none⟩ = some (.pointer (some ⟨c', 0, none⟩)) := st3.gets HD0.out 3 rfl; obtain ⟨e8, hv8⟩ := hfr3 c8 hl8 hn1 hn2 HV8.out; have hw8 := e8.trans HW8.out; obtain ⟨⟨hs51, hs52⟩, hz51, hz52⟩ := step_cell hw8; have HALL := hid (And.intro hlin3 (And.intro hln3 (And.intro st3 (And.intro hm3 (And.intro hsz3 (And.intro hfr3 (And.intro hw8 hv8))))))); clear hlin3 hln3 st3 hm3 hsz3 hfr3 hw8 hv8 e8))
            all_goals (go_wp2_with fail; go_meet)
            all_goals
              obtain ⟨hlin3, hln3, st3, hm3, hsz3, hfr3, hw8, hv8⟩ := HALL.out
              have hbase : w0.heap.size ≤ c8 := Nat.le_trans HST.out.below.size hc8'
              have hsz3' : wc.heap.size ≤ w5.heap.size := hsz3
              refine ⟨S3, m3, v3, k3, hlin3, hln3, st3.put8 hw8 hbase hv8, hm3, by simpa using hsz3', fun b hb h1 h2 h3 h4 => ⟨(Below.heap_setCell _ _ _ _ (by exact h3)).trans (hfr3 b hb h1 h2 h4).1, (hfr3 b hb h1 h2 h4).2⟩, hv8, ?_⟩
              rw [setCell_at' hw8]
              rfl
          case rest =>
            rename_i wq _
            obtain ⟨S3, m3, v3, k3, hlin3, hln3, st3, hm3, hsz3, hfr3, hv8, hw8⟩ := hcut
            rw [if_neg (by decide)] at hw8
            obtain ⟨S4, hS4⟩ : ∃ S4, S4 = S2 ++ S3 := ⟨_, rfl⟩
            rw [← hS4] at st3
            have HS4 := hid hS4
            clear hS4
            have hl1' : look m3 d = none := by
              refine look_none fun p hp e => ?_
              have e2 : nodes (.sum x y) = nodes x + nodes y + 1 := rfl
              rcases hm3 p hp with hp | ⟨Y, hY, hn⟩
              · rcases HM1.out p hp with hp | ⟨Y, hY, hn⟩
                · exact look_not HL.out p hp e
                · rw [e] at hY
                  have := (IsD.same HD.out hY).1
                  omega
              · rw [e] at hY
                have := (IsD.same HD.out hY).1
                omega
            have HL1 := hid hl1'
            have HS3 := hid st3
            have hkc1 : wc.cell? ⟨d, 0, none⟩ = some (.int .i64 2) := st3.gets HD0.out 0 rfl
            have hcsc : wc.cell? ⟨ts, 0, none⟩ = some v3 := by rw [cell_of_row _ _ _ _ _ _ st3.cs]; rfl
            have h80 : wc.cell? ⟨c8, 0, none⟩ = some (.int .i64 2) := by rw [cell_of_row _ _ _ _ _ _ hw8]; rfl
            have h81 : wc.cell? ⟨c8, 1, none⟩ = some (.int .i64 k1) := by rw [cell_of_row _ _ _ _ _ _ hw8]; rfl
            have h82 : wc.cell? ⟨c8, 2, none⟩ = some (.int .i64 k3) := by rw [cell_of_row _ _ _ _ _ _ hw8]; rfl
            have HFR3 := hid hfr3
            have HW8 := hid hw8
            have HLN3 := hid hln3
            have HM3 := hid hm3
            have HLIN3 := hid hlin3
            clear hlin3 hln3 st3 hm3 hfr3 hw8 hl1' hkc1 hkd1 hcf1
            go_upto_region 9 with fail
            go_cut [] (fun wx => ∃ v', Put w0 ts S4 v3 ⟨2, k1, k3⟩ wc wx v')
            case first =>
              obtain ⟨i6, hi6, hz0, hz1, hz2⟩ := info_parts info166
              have hown := HS3.out.own
              unfold OwnS at hown
              have hb9 := HS3.out.below.size
              have hl9 : S4.length + 1 ≤ 1000000 := by have h := HLEN.out; have e2 : nodes (.sum x y) = nodes x + nodes y + 1 := rfl; have e3 := HLN3.out; have e4 := congrArg List.length HS4.out; rw [List.length_append] at e4; omega
              have hvt : v3.ownBlock ≠ some ts := own_kind HS3.out.own HS3.out.cs (by intro c f h; injection h with _ h _; cases h)
              have htl := lt_of_heap HS3.out.cs
              go_wp2_with (at_builtin; refine wpList_append_own_at _ rfl _ _ 63 rfl w0.heap.size 166 i6 _ 3 24 Try.underlying63 hi6 hz0 hz1 hz2 rfl (by decide) _ _ _ rfl (hown.alloc _) ⟨wc.heap.size, 0, none⟩ 1 1 [.int .i64 2, .int .i64 k1, .int .i64 k3] rfl rfl (cell_three_new _ _ _ _ _) (by intro u hu; simp at hu; rcases hu with rfl | rfl | rfl <;> rfl) (by unfold maxLen; omega) (by omega) (by simp; omega) ?_; intro v' w3 hown' hgrow hnil hat; obtain ⟨hst, hsf⟩ := put_cell (v := v3) hgrow htl hvt HS3.out.cs; obtain ⟨gg, cp, hgg⟩ := own_slice hown'; subst hgg; have HP := hid (Put.mk' (s := ⟨2, (k1 : Int), k3⟩) HS3.out hown' hgrow hat); clear hown' hgrow hat hnil)
              go_meet
              exact ⟨_, HP.out⟩
            case rest =>
              obtain ⟨v', hput⟩ := hcut
              have mid := hput.mid HS3.out
              obtain ⟨gg, cp, rfl⟩ := own_slice' hput.1
              have hdx := HD.out.below mid.2.2.2
              have hox : ∀ p, p ∈ m3 → Obj164 wc p.1 := fun p hp => by
                obtain ⟨Y, hY, _⟩ := HS3.out.has p hp
                exact (hY.below mid.2.2.2).obj
              obtain ⟨w4, hu, hpm, hgr⟩ := run_update_pm wc bm d S4.length m3 mid.2.2.1 hdx.obj hox HL1.out
              have hcmx : wc.cell? ⟨tm, 0, none⟩ = some (.map (some bm)) := by rw [cell_of_row _ _ _ _ _ _ mid.1]; rfl
              have hcsx : wc.cell? ⟨ts, 0, none⟩ = some (.slice (some ⟨gg, 0, none⟩) (S4 ++ [(⟨2, (k1 : Int), k3⟩ : Stp)]).length cp) := by rw [cell_of_row _ _ _ _ _ _ hput.2.1]; rfl
              rw [List.length_append, List.length_singleton] at hcsx
              have HPUT := hid hput
              have HMID := hid mid
              have HPM := hid hpm
              have HGR := hid hgr
              clear hput mid hpm hgr hox hdx
              have hcm4 : w4.cell? ⟨tm, 0, none⟩ = some (.map (some bm)) := upd_cm HMID.out.1 HMID.out.2.2.1 HGR.out
              have hl4 : ((Instr.lookup 159 (.map (some bm)) (.pointer (some ⟨d, 0, none⟩)) false).run Try.prog w4 = .ok (.int .i64 (S4.length : Int)) w4) := upd_look HS3.out HD.out HPM.out HGR.out HMID.out.2.2.2 HL1.out
              have hl9 : S4.length + 1 ≤ 1000000 := by have h := HLEN.out; have e2 : nodes (.sum x y) = nodes x + nodes y + 1 := rfl; have e3 := HLN3.out; have e4 := congrArg List.length HS4.out; rw [List.length_append] at e4; omega
              go_wp2_with (at_mapUpdate; refine wpList_update_run _ w4 rfl _ _ _ _ rfl (by first | exact hu | simpa using hu) ?_)
              go_ret
              have hS4 := HS4.out
              have hS2 := HS2.out
              have hLT : LinT S (S1 ++ S3 ++ [⟨2, (k1 : Int), (k3 : Int)⟩]) S4.length (.sum x y) := by
                have h3 := HLIN3.out
                rw [hS2] at h3
                have h := HLIN1.out.sum h3
                rw [← hS2, ← hS4] at h
                exact h
              have e0 : S ++ (S1 ++ S3 ++ [(⟨2, (k1 : Int), k3⟩ : Stp)]) = S4 ++ [⟨2, (k1 : Int), k3⟩] := by rw [hS4, hS2]; simp
              have hlin := hLT.lin
              rw [e0] at hlin
              obtain ⟨r1, r2, r3⟩ := HPUT.out.done HS3.out HPM.out HGR.out HD.out hlin
              have hbs := HBC.out.size
              refine ⟨S1 ++ S3 ++ [⟨2, (k1 : Int), k3⟩], _, _, S4.length, rfl, hLT, ?_, by rw [e0]; exact r1, fun p hp => ?_, by omega, fun b hb hn1 hn2 hn3 => ?_⟩
              · have := HLN.out
                have := HLN3.out
                rw [List.length_append, List.length_append, List.length_singleton]
                show _ ≤ nodes x + nodes y + 1
                omega
              · rcases List.mem_append.1 hp with hp | hp
                · rcases HM3.out p hp with hp | ⟨Y, hY, hn⟩
                  · rcases HM1.out p hp with hp | ⟨Y, hY, hn⟩
                    · exact .inl hp
                    · exact .inr ⟨Y, hY, by show _ ≤ nodes x + nodes y + 1; omega⟩
                  · exact .inr ⟨Y, hY, by show _ ≤ nodes x + nodes y + 1; omega⟩
                · rw [List.mem_singleton.1 hp]
                  exact .inr ⟨_, HD.out, Nat.le_refl _⟩
              · obtain ⟨e1, e2⟩ := HFR.out b (by omega) hn1 hn2 (by omega) hn3
                obtain ⟨e5, e6⟩ := HFR3.out b (by omega) hn1 hn2 (by omega) e2
                obtain ⟨e3, e4⟩ := r3 b (by omega) hn1 hn2 e6
                exact ⟨by rw [e3, e5, e1, HBC.out.block b hb], e4⟩
  | half x ihx =>
    intro d S m v w hd st hlen
    cases hl : look m d with
    | some k => exact add_hit w0 ts tm tf bm _ d S m v w hd st k hl
    | none =>
      have hdw := hd.below st.below
      have ho : ∀ p, p ∈ m → Obj164 w p.1 := fun p hp => by
        obtain ⟨Y, hY, _⟩ := st.has p hp
        exact (hY.below st.below).obj
      have hl1 := run_lookup_pm w bm d m st.pm hdw.obj ho true
      rw [hl] at hl1
      simp only [if_true, Option.getD_none, Option.isSome_none] at hl1
      have hcm : w.cell? ⟨tm, 0, none⟩ = some (.map (some bm)) := by rw [cell_of_row _ _ _ _ _ _ st.cm]; rfl
      have hcs : w.cell? ⟨ts, 0, none⟩ = some v := by rw [cell_of_row _ _ _ _ _ _ st.cs]; rfl
      have hcf : w.cell? ⟨tf, 0, none⟩ = some (.func (.func 110) #[] #[.pointer (some ⟨tm, 0, none⟩), .pointer (some ⟨tf, 0, none⟩), .pointer (some ⟨ts, 0, none⟩)]) := by rw [cell_of_row _ _ _ _ _ _ st.cf]; rfl
      have hd' := hd
      obtain ⟨c, h0, hx⟩ := hd'
      have hdw' : w.heap[d]? = some (.cells #[.int .i64 3, .int .i64 0, .pointer (some ⟨c, 0, none⟩), .pointer none] 164 (0, 0)) := by rw [st.below.block d (lt_of_heap h0)]; exact h0
      have hk0 : w.cell? ⟨d, 0, none⟩ = some (.int .i64 3) := by rw [cell_of_row _ _ _ _ _ _ hdw']; rfl
      have hk1 : w.cell? ⟨d, 1, none⟩ = some (.int .i64 0) := by rw [cell_of_row _ _ _ _ _ _ hdw']; rfl
      have hk2 : w.cell? ⟨d, 2, none⟩ = some (.pointer (some ⟨c, 0, none⟩)) := by rw [cell_of_row _ _ _ _ _ _ hdw']; rfl
      have HST := hid st
      have HD := hid hd
      have HL := hid hl
      have HX := hid hx
      have HDW := hid hdw'
      have HLEN := hid hlen
      have HD0 := hid h0
      clear ho st hdw hd hl hdw' h0 hx hlen
      go_enter Try.func110, Try.ntmps110
      go_upto_region 4 with fail
      go_cut [8] (fun s8 wx => ∃ c8 : Nat, s8 = .pointer (some ⟨c8, 0, none⟩) ∧ wx.heap[c8]? = some (.cells #[.int .i64 3, .int .i64 0, .int .i64 0] 166 (0, 0)) ∧ Below w.heap.size w wx ∧ w.heap.size ≤ c8)
      case first =>
        go_region_held3 (fun w' => w'.cell? ⟨d, 0, none⟩ = some (.int .i64 3) ∧ w'.cell? ⟨d, 1, none⟩ = some (.int .i64 0)) (go_keep) ((fail))
        all_goals (go_wp2_with fail; go_meet)
        all_goals exact ⟨_, rfl, heapn _ _ _ rfl, (bnew _ _).drew, Nat.le_refl _⟩
      case rest =>
        obtain ⟨c8, rfl, hc8, hbc, hc8'⟩ := hcut
        have hkc : wc.cell? ⟨d, 0, none⟩ = some (.int .i64 3) := cell_later hbc hk0
        have hkd : wc.cell? ⟨d, 2, none⟩ = some (.pointer (some ⟨c, 0, none⟩)) := cell_later hbc hk2
        have hcfc := cell_later hbc hcf
        have HSC := hid (HST.out.later hbc)
        have HC8 := hid hc8
        have HBC := hid hbc
        clear hc8 hbc
        have hl8 : c8 < wc.heap.size := lt_of_heap HC8.out
        have htf8 : tf ≠ c8 := by have := lt_of_heap HST.out.cf; omega
        have hd8 : d ≠ c8 := by have := lt_of_heap HDW.out; omega
        have hn1 : c8 ≠ ts := by have := lt_of_heap HST.out.cs; omega
        have hn2 : c8 ≠ bm := by have := HST.out.pm.lt; omega
        have hn3 : v.ownBlock ≠ some c8 := fun h => by have := own_lt HST.out.own c8 h; omega
        go_upto_region 6 with fail
        go_cut [] (fun wx => Child w0 ts tm tf bm S m v c8 1 3 0 x wc wx)
        case first =>
          go_region_held3 (fun w' => w'.cell? ⟨tf, 0, none⟩ = some (.func (.func 110) #[] #[.pointer (some ⟨tm, 0, none⟩), .pointer (some ⟨tf, 0, none⟩), .pointer (some ⟨ts, 0, none⟩)]) ∧ w'.cell? ⟨d, 2, none⟩ = some (.pointer (some ⟨c, 0, none⟩))) (first | go_keep | exact ⟨(cset_off _ _ _ _ _ htf8).trans hF5, (cset_off _ _ _ _ _ hd8).trans hG5⟩)
            ((go_at_call 110; refine (ihx c S m v _ HX.out (HSC.out.later (bdrew _)) (by have := HLEN.out; unfold nodes at this; omega)).mono ?_; rintro e w5 ⟨S1, m1, v1, k1, rfl, hlin1, hln1, st1, hm1, hsz1, hfr1⟩; have hF5 : w5.cell? ⟨tf, 0, none⟩ = some (.func (.func 110) #[] #[.pointer (some ⟨tm, 0, none⟩), .pointer (some ⟨tf, 0, none⟩), .pointer (some ⟨ts, 0, none⟩)]) := (by rw [cell_of_row _ _ _ _ _ _ st1.cf]; rfl); have hG5 : w5.cell? ⟨d, 2, none⟩ = some (.pointer (some ⟨c, 0, none⟩)) := st1.gets HD0.out 2 rfl; obtain ⟨e8, hv8⟩ := hfr1 c8 hl8 hn1 hn2 hn3; have hw8 := e8.trans HC8.out; obtain ⟨⟨hs51, hs52⟩, hz51, hz52⟩ := step_cell hw8; have HALL := hid (And.intro hlin1 (And.intro hln1 (And.intro st1 (And.intro hm1 (And.intro hsz1 (And.intro hfr1 (And.intro hw8 hv8))))))); clear hlin1 hln1 st1 hm1 hsz1 hfr1 hw8 hv8 e8))
          all_goals (go_wp2_with fail; go_meet)
          all_goals
            obtain ⟨hlin1, hln1, st1, hm1, hsz1, hfr1, hw8, hv8⟩ := HALL.out
            have hbase : w0.heap.size ≤ c8 := Nat.le_trans HST.out.below.size hc8'
            have hsz1' : wc.heap.size ≤ w5.heap.size := hsz1
            refine ⟨S1, m1, v1, k1, hlin1, hln1, st1.put8 hw8 hbase hv8, hm1, by simpa using hsz1', fun b hb h1 h2 h3 h4 => ⟨(Below.heap_setCell _ _ _ _ (by exact h3)).trans (hfr1 b hb h1 h2 h4).1, (hfr1 b hb h1 h2 h4).2⟩, hv8, ?_⟩
            rw [setCell_at' hw8]
            rfl
        case rest =>
          rename_i wp _
          obtain ⟨S1, m1, v1, k1, hlin1, hln1, st1, hm1, hsz1, hfr1, hv8, hw8⟩ := hcut
          rw [if_pos rfl] at hw8
          obtain ⟨S2, hS2⟩ : ∃ S2, S2 = S ++ S1 := ⟨_, rfl⟩
          rw [← hS2] at st1
          have HS2 := hid hS2
          clear hS2
          have hl1' : look m1 d = none := by
            refine look_none fun p hp e => ?_
            rcases hm1 p hp with hp | ⟨Y, hY, hn⟩
            · exact look_not HL.out p hp e
            · rw [e] at hY
              have := (IsD.same HD.out hY).1
              have e2 : nodes (.half x) = nodes x + 1 := rfl
              omega
          have HL1 := hid hl1'
          have HS1 := hid st1
          have hkc1 : wc.cell? ⟨d, 0, none⟩ = some (.int .i64 3) := st1.gets HD0.out 0 rfl
          have hcsc : wc.cell? ⟨ts, 0, none⟩ = some v1 := by rw [cell_of_row _ _ _ _ _ _ st1.cs]; rfl
          have h80 : wc.cell? ⟨c8, 0, none⟩ = some (.int .i64 3) := by rw [cell_of_row _ _ _ _ _ _ hw8]; rfl
          have h81 : wc.cell? ⟨c8, 1, none⟩ = some (.int .i64 k1) := by rw [cell_of_row _ _ _ _ _ _ hw8]; rfl
          have h82 : wc.cell? ⟨c8, 2, none⟩ = some (.int .i64 0) := by rw [cell_of_row _ _ _ _ _ _ hw8]; rfl
          have HFR := hid hfr1
          have HW8 := hid hw8
          have HLN := hid hln1
          have HM1 := hid hm1
          have HLIN1 := hid hlin1
          clear hlin1 hln1 st1 hm1 hfr1 hw8 hl1' hkc hkd hcfc hl1 hcm hcs hcf hk0 hk1 hk2
          go_upto_region 9 with fail
          go_cut [] (fun wx => ∃ v', Put w0 ts S2 v1 ⟨3, k1, 0⟩ wc wx v')
          case first =>
            obtain ⟨i6, hi6, hz0, hz1, hz2⟩ := info_parts info166
            have hown := HS1.out.own
            unfold OwnS at hown
            have hb9 := HS1.out.below.size
            have hl9 : S2.length + 1 ≤ 1000000 := by have h := HLEN.out; have e2 : nodes (.half x) = nodes x + 1 := rfl; have e3 := HLN.out; have e4 := congrArg List.length HS2.out; rw [List.length_append] at e4; omega
            have hvt : v1.ownBlock ≠ some ts := own_kind HS1.out.own HS1.out.cs (by intro c f h; injection h with _ h _; cases h)
            have htl := lt_of_heap HS1.out.cs
            go_wp2_with (at_builtin; refine wpList_append_own_at _ rfl _ _ 63 rfl w0.heap.size 166 i6 _ 3 24 Try.underlying63 hi6 hz0 hz1 hz2 rfl (by decide) _ _ _ rfl (hown.alloc _) ⟨wc.heap.size, 0, none⟩ 1 1 [.int .i64 3, .int .i64 k1, .int .i64 0] rfl rfl (cell_three_new _ _ _ _ _) (by intro u hu; simp at hu; rcases hu with rfl | rfl | rfl <;> rfl) (by unfold maxLen; omega) (by omega) (by simp; omega) ?_; intro v' w3 hown' hgrow hnil hat; obtain ⟨hst, hsf⟩ := put_cell (v := v1) hgrow htl hvt HS1.out.cs; obtain ⟨gg, cp, hgg⟩ := own_slice hown'; subst hgg; have HP := hid (Put.mk' (s := ⟨3, (k1 : Int), 0⟩) HS1.out hown' hgrow hat); clear hown' hgrow hat hnil)
            go_meet
            exact ⟨_, HP.out⟩
          case rest =>
            obtain ⟨v', hput⟩ := hcut
            have mid := hput.mid HS1.out
            obtain ⟨gg, cp, rfl⟩ := own_slice' hput.1
            have hdx := HD.out.below mid.2.2.2
            have hox : ∀ p, p ∈ m1 → Obj164 wc p.1 := fun p hp => by
              obtain ⟨Y, hY, _⟩ := HS1.out.has p hp
              exact (hY.below mid.2.2.2).obj
            obtain ⟨w4, hu, hpm, hgr⟩ := run_update_pm wc bm d S2.length m1 mid.2.2.1 hdx.obj hox HL1.out
            have hcmx : wc.cell? ⟨tm, 0, none⟩ = some (.map (some bm)) := by rw [cell_of_row _ _ _ _ _ _ mid.1]; rfl
            have hcsx : wc.cell? ⟨ts, 0, none⟩ = some (.slice (some ⟨gg, 0, none⟩) (S2 ++ [(⟨3, (k1 : Int), 0⟩ : Stp)]).length cp) := by rw [cell_of_row _ _ _ _ _ _ hput.2.1]; rfl
            rw [List.length_append, List.length_singleton] at hcsx
            have HPUT := hid hput
            have HMID := hid mid
            have HPM := hid hpm
            have HGR := hid hgr
            clear hput mid hpm hgr hox hdx
            have hcm4 : w4.cell? ⟨tm, 0, none⟩ = some (.map (some bm)) := upd_cm HMID.out.1 HMID.out.2.2.1 HGR.out
            have hl4 : ((Instr.lookup 159 (.map (some bm)) (.pointer (some ⟨d, 0, none⟩)) false).run Try.prog w4 = .ok (.int .i64 (S2.length : Int)) w4) := upd_look HS1.out HD.out HPM.out HGR.out HMID.out.2.2.2 HL1.out
            have hl9 : S2.length + 1 ≤ 1000000 := by have h := HLEN.out; have e2 : nodes (.half x) = nodes x + 1 := rfl; have e3 := HLN.out; have e4 := congrArg List.length HS2.out; rw [List.length_append] at e4; omega
            go_wp2_with (at_mapUpdate; refine wpList_update_run _ w4 rfl _ _ _ _ rfl (by first | exact hu | simpa using hu) ?_)
            go_ret
            have hS2 := HS2.out
            have hlin : Lin (S2 ++ [(⟨3, (k1 : Int), 0⟩ : Stp)]) S2.length (.half x) := by
              have h := HLIN1.out.half.lin
              rw [← List.append_assoc, ← hS2] at h
              exact h
            obtain ⟨r1, r2, r3⟩ := HPUT.out.done HS1.out HPM.out HGR.out HD.out hlin
            have hbs := HBC.out.size
            have e0 : S ++ (S1 ++ [(⟨3, (k1 : Int), 0⟩ : Stp)]) = S2 ++ [⟨3, (k1 : Int), 0⟩] := by rw [hS2]; simp
            refine ⟨S1 ++ [⟨3, (k1 : Int), 0⟩], _, _, S2.length, rfl, ?_, ?_, by rw [e0]; exact r1, fun p hp => ?_, by omega, fun b hb hn1 hn2 hn3 => ?_⟩
            · rw [hS2]
              exact HLIN1.out.half
            · have := HLN.out
              rw [List.length_append, List.length_singleton]
              show _ ≤ nodes x + 1
              omega
            · rcases List.mem_append.1 hp with hp | hp
              · rcases HM1.out p hp with hp | ⟨Y, hY, hn⟩
                · exact .inl hp
                · exact .inr ⟨Y, hY, by show _ ≤ nodes x + 1; omega⟩
              · rw [List.mem_singleton.1 hp]
                exact .inr ⟨_, HD.out, Nat.le_refl _⟩
            · obtain ⟨e1, e2⟩ := HFR.out b (by omega) hn1 hn2 (by omega) hn3
              obtain ⟨e3, e4⟩ := r3 b (by omega) hn1 hn2 e2
              exact ⟨by rw [e3, e1, HBC.out.block b hb], e4⟩
end Go.Proofs.Ytnjbahiaelehkaa
