/- The reference: step: plain parts. -/
import Derived.Test.YtnjbahiaelehkaaB2
import Derived.Test.YtnjbahiaelehkaaA22
import Derived.Deep.CutBlock
import Derived.IntWalk
import Derived.StillTailTactics
namespace Go.Proofs.Ytnjbahiaelehkaa
open Go.RowKit

/-- What the steps so far say, in memory. -/
def RdY (w : World) (n : Nat) (a : Option Addr) (done : List Sy) : Prop :=
  ∀ i (h : i < done.length), ∃ b off g cap, a = some ⟨b, off, none⟩ ∧ b < w.heap.size ∧ w.cell? ⟨b, off + i * 2, none⟩ = some (.slice (some ⟨g, 0, none⟩) n cap) ∧ w.cell? ⟨b, off + i * 2 + 1, none⟩ = some (.int .i64 done[i].N) ∧ IB w g n done[i].X
theorem RdY.below {w w' : World} {n : Nat} {a : Option Addr} {done : List Sy} (h : RdY w n a done) (hb : Below w.heap.size w w') : RdY w' n a done := by
  intro i hi
  obtain ⟨b, off, g, cap, ha, hlt, h1, h2, h3⟩ := h i hi
  exact ⟨b, off, g, cap, ha, Nat.lt_of_lt_of_le hlt hb.size, cell_later hb h1, cell_later hb h2, h3.below hb⟩
/-- What a step returns. -/
def StepPost (n : Nat) (r : Option Sy) (w : World) (e : Ending) (w' : World) : Prop :=
  Below w.heap.size w w' ∧ ((∃ y g Y, r = some y ∧ w.heap.size ≤ g ∧ IB w' g n Y ∧ (∀ k, k < n → Y k = y.X k) ∧ e = .returned (.tuple #[.agg #[.slice (some ⟨g, 0, none⟩) n n, .int .i64 y.N], .bool true])) ∨
    (r = none ∧ ∃ x c d N, e = .returned (.tuple #[.agg #[.slice x c d, .int .i64 N], .bool false])))
theorem info3' : (Try.prog.info? 3).map (fun i => (i.zero, i.size, i.bytes)) = some (some (.int .i64 0), 1, 8) := by kernel_rfl

/-- What the switch leaves. -/
def StCut (n : Nat) (r : Option Sy) (w : World) (c8 g c10 : Nat) (wx : World) : Prop :=
  ∃ y Y, r = some y ∧ wx.heap[c10]? = some (.cells #[.slice (some ⟨g, 0, none⟩) n n, .int .i64 y.N] 128 (0, 0)) ∧ IB wx g n Y ∧ (∀ k, k < n → Y k = y.X k) ∧ Below w.heap.size w wx ∧ wx.heap[c8]? = some (.cells #[.slice none 0 0, .int .i64 0] 128 (0, 0))
/-- What stands in memory as the switch begins. -/
structure St0 (n : Nat) (w : World) (s : Stp) (wx : World) : Prop where
  b : Below w.heap.size w wx
  c7 : wx.heap[w.heap.size]? = some (.cells #[.int .i64 s.K, .int .i64 s.A, .int .i64 s.B] 166 (0, 0))
  c8 : wx.heap[w.heap.size + 1]? = some (.cells #[.slice none 0 0, .int .i64 0] 128 (0, 0))
  x : IB wx (w.heap.size + 1 + 1) n (fun _ => 0)
  c10 : wx.heap[w.heap.size + 1 + 1 + 1]? = some (.cells #[.slice (some ⟨w.heap.size + 1 + 1, 0, none⟩) n n, .int .i64 0] 128 (0, 0))
theorem St0.mk' (n : Nat) (w : World) (K A B : Int) : St0 n w ⟨K, A, B⟩ ((((w.alloc (.cells #[.int .i64 K, .int .i64 A, .int .i64 B] 166)).alloc (.cells #[.slice none 0 0, .int .i64 0] 128)).alloc (.cells (madeCells #[.int .i64 0] n) 3)).alloc (.cells #[.slice (some ⟨w.heap.size + 1 + 1, 0, none⟩) n n, .int .i64 0] 128)) where
  b := (((bnew _ _).alloc (by simp) _).alloc (by simp; omega) _).alloc (by simp; omega) _
  c7 := by
    rw [heapo _ _ _ (by simp; omega), heapo _ _ _ (by simp; omega), heapo _ _ _ (by simp)]
    exact heapn _ _ _ rfl
  c8 := by
    rw [heapo _ _ _ (by simp), heapo _ _ _ (by simp)]
    exact heapn _ _ _ (by simp)
  x := by
    have h := IB.new ((w.alloc (.cells #[.int .i64 K, .int .i64 A, .int .i64 B] 166)).alloc (.cells #[.slice none 0 0, .int .i64 0] 128)) n
    simp only [World.size_alloc] at h
    exact h.below (bnew _ _)
  c10 := heapn _ _ _ (by simp)
theorem cell_in {w : World} {b k : Nat} {c : Array Value} {e : TypeId} {v : Value} (h : w.heap[b]? = some (.cells c e (0, 0))) (hk : c[k]? = some v) : w.cell? ⟨b, k, none⟩ = some v := by
  rw [cell_of_row _ _ _ _ _ _ h]
  exact hk
theorem froz_in {w : World} {b k : Nat} {c : Array Value} {e : TypeId} (h : w.heap[b]? = some (.cells c e (0, 0))) : w.frozen? ⟨b, k, none⟩ = false := by simp [World.frozen?, h]

theorem IB.congr {w : World} {g n : Nat} {X Y : Nat → Int} (h : IB w g n X) (e : ∀ k, k < n → X k = Y k) : IB w g n Y := by
  obtain ⟨C, h1, h2, h3⟩ := h
  exact ⟨C, h1, h2, fun k hk => by rw [h3 k hk, e k hk]⟩
theorem IB.but {w w' : World} {g n M : Nat} {X : Nat → Int} (h : IB w g n X) (hb : But M w w') (hne : g ≠ M) : IB w' g n X := h.keep (hb.block g h.lt hne)
theorem okX_succ (k : Nat) (X : Nat → Int) : okX (k + 1) X = (okX k X && inB (X k) (-100) 100) := by
  unfold okX inB
  rw [Bool.eq_iff_iff, Bool.and_eq_true, decide_eq_true_eq, decide_eq_true_eq, decide_eq_true_eq]
  constructor
  · intro h
    exact ⟨fun j hj => h j (by omega), h k (by omega)⟩
  · rintro ⟨h1, h2⟩ j hj
    by_cases e : j < k
    · exact h1 j e
    · have : j = k := by omega
      subst this
      exact h2
theorem okX_congr {n : Nat} {X Y : Nat → Int} (h : ∀ k, k < n → X k = Y k) : okX n X = okX n Y := by
  unfold okX
  rw [decide_eq_decide]
  constructor
  · intro h' k hk
    rw [← h k hk]
    exact h' k hk
  · intro h' k hk
    rw [h k hk]
    exact h' k hk
theorem getD_at {done : List Sy} {i : Nat} (h : i < done.length) : done.getD i sy0 = done[i] := by rw [List.getD_eq_getElem?_getD, List.getElem?_eq_getElem h]; rfl
theorem StepPost.no {n : Nat} {r : Option Sy} {w w' : World} {x : Option Addr} {c d : Nat} {N : Int} (hb : Below w.heap.size w w') (h : r = none) : StepPost n r w (.returned (.tuple #[.agg #[.slice x c d, .int .i64 N], .bool false])) w' := ⟨hb, .inr ⟨h, x, c, d, N, rfl⟩⟩
theorem stepS_none {n : Nat} {l : List AM} {done : List Sy} {s : Stp} (h : stepR n l done s = none) : stepS n l done s = none := by unfold stepS; rw [h]
theorem StepPost.fin {n g : Nat} {l : List AM} {done : List Sy} {s : Stp} {w w' : World} {y : Sy} {Y : Nat → Int} (hr : stepR n l done s = some y) (hb : Below w.heap.size w w') (hg : w.heap.size ≤ g) (hY : IB w' g n Y) (he : ∀ k, k < n → Y k = y.X k) :
    StepPost n (stepS n l done s) w (.returned (.tuple #[.agg #[.slice (some ⟨g, 0, none⟩) n n, .int .i64 y.N], .bool (okN y.N && okX n Y)])) w' := by
  refine ⟨hb, ?_⟩
  have e : okX n Y = okX n y.X := okX_congr he
  unfold stepS
  rw [hr]
  cases h : (okN y.N && okX n Y) with
  | true =>
    rw [Bool.and_eq_true, e] at h
    exact .inl ⟨y, g, Y, if_pos ⟨h.2, h.1⟩, hg, hY, he, rfl⟩
  | false =>
    refine .inr ⟨if_neg ?_, _, _, _, _, rfl⟩
    rintro ⟨h1, h2⟩
    rw [e, h1, h2] at h
    cases h
theorem but_cell {M : Nat} {w w' : World} (h : But M w w') {b k : Nat} {v : Value} (hc : w.cell? ⟨b, k, none⟩ = some v) (hb : b < w.heap.size) (hm : b ≠ M) : w'.cell? ⟨b, k, none⟩ = some v := by
  rw [h.cell (p := ⟨b, k, none⟩) hb hm]
  exact hc
theorem but_froz {M : Nat} {w w' : World} (h : But M w w') {b k : Nat} (hc : w.frozen? ⟨b, k, none⟩ = false) (hb : b < w.heap.size) (hm : b ≠ M) : w'.frozen? ⟨b, k, none⟩ = false := by
  rw [← hc]
  unfold World.frozen?
  rw [h.block b hb hm]

theorem okN_in {n : Int} (h : okN n = true) : -1125899906842624 ≤ n ∧ n ≤ 1125899906842624 := by
  unfold okN at h
  exact of_decide_eq_true h
theorem okX_in {n k : Nat} {X : Nat → Int} (h : okX n X = true) (hk : k < n) : -100 ≤ X k ∧ X k ≤ 100 := by
  unfold okX at h
  exact of_decide_eq_true h k hk
/-- The sums so far. -/
def SumIn (n : Nat) (W : World) (g : Nat) (X : Nat → Int) (k : Nat) (wr : World) : Prop := IB wr g n (fun j => if j < k then X j else 0) ∧ But g W wr
def HalfIn (n : Nat) (W : World) (g : Nat) (X : Nat → Int) (k : Nat) (wr : World) : Prop := IB wr g n (fun j => if j < k then X j / 2 else 0) ∧ But g W wr ∧ ∀ j, j < k → X j % 2 = 0

def tailB (N : Int) (X : Nat → Int) (k : Nat) : Bool := okN N && okX k X
theorem tailB_succ (N : Int) (X : Nat → Int) (k : Nat) : tailB N X (k + 1) = (tailB N X k && inB (X k) (-100) 100) := by
  unfold tailB
  rw [okX_succ, Bool.and_assoc]

end Go.Proofs.Ytnjbahiaelehkaa
