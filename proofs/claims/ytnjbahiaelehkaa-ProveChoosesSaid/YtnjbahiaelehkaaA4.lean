/- Contracts of the closures that say why, and what lies in memory for bounds. -/
import Derived.Test.YtnjbahiaelehkaaA3
import Derived.StillTailTactics
namespace Go.Proofs.Ytnjbahiaelehkaa
open Go.RowKit

/-- A new block holds the sum of two. -/
def NewSum (w : World) (p q : Option Addr) (v : Value) (w' : World) : Prop := v = .pointer (some ⟨w.heap.size, 0, none⟩) ∧ w' = w.alloc (.cells #[.int .i64 2, .int .i64 0, .pointer p, .pointer q] 164)
def Same (w : World) (p : Option Addr) (v : Value) (w' : World) : Prop := v = .pointer p ∧ w' = w

theorem why113 (b : Nat) (p : Option Addr) (w : World) (hc : w.cell? ⟨b, 0, none⟩ = some (.pointer p)) : Calls Try.prog 113 #[.pointer (some ⟨b, 0, none⟩)] w (WhyPost (NewSum w p p)) := by
  go_enter Try.func113, Try.ntmps113
  go_wp2_with (go_at_call 99; refine (sum_any _ _ _).mono ?_; rintro e w' ⟨rfl, rfl⟩)
  go_ret
  exact ⟨_, rfl, rfl, rfl⟩
theorem why114 (b : Nat) (p : Option Addr) (w : World) (hc : w.cell? ⟨b, 0, none⟩ = some (.pointer p)) : Calls Try.prog 114 #[.pointer (some ⟨b, 0, none⟩)] w (WhyPost (Same w p)) := by
  go_enter Try.func114, Try.ntmps114
  go_wp2
  go_ret
  exact ⟨_, rfl, rfl, rfl⟩
theorem why115 (b c : Nat) (p q : Option Addr) (w : World) (hb : w.cell? ⟨b, 1, none⟩ = some (.pointer p)) (hc : w.cell? ⟨c, 1, none⟩ = some (.pointer q)) :
    Calls Try.prog 115 #[.pointer (some ⟨b, 0, none⟩), .pointer (some ⟨c, 0, none⟩)] w (WhyPost (NewSum w p q)) := by
  go_enter Try.func115, Try.ntmps115
  go_wp2_with (go_at_call 99; refine (sum_any _ _ _).mono ?_; rintro e w' ⟨rfl, rfl⟩)
  go_ret
  exact ⟨_, rfl, rfl, rfl⟩
theorem why101 (b c : Nat) (p q : Option Addr) (w : World) (hb : w.cell? ⟨b, 1, none⟩ = some (.pointer p)) (hc : w.cell? ⟨c, 1, none⟩ = some (.pointer q)) :
    Calls Try.prog 101 #[.pointer (some ⟨b, 0, none⟩), .pointer (some ⟨c, 0, none⟩)] w (WhyPost (NewSum w p q)) := by
  go_enter Try.func101, Try.ntmps101
  go_wp2_with (go_at_call 99; refine (sum_any _ _ _).mono ?_; rintro e w' ⟨rfl, rfl⟩)
  go_ret
  exact ⟨_, rfl, rfl, rfl⟩

/-- The world is as it was, but for block M and what is new. -/
structure But (M : Nat) (w w' : World) : Prop where
  os : w'.os = w.os
  tape : w'.tape = w.tape
  output : w'.output = w.output
  size : w.heap.size ≤ w'.heap.size
  block : ∀ k, k < w.heap.size → k ≠ M → w'.heap[k]? = w.heap[k]?

theorem But.refl (M : Nat) (w : World) : But M w w := ⟨rfl, rfl, rfl, Nat.le_refl _, fun _ _ _ => rfl⟩
theorem But.trans {M : Nat} {a b c : World} (h : But M a b) (k : But M b c) : But M a c :=
  ⟨k.os.trans h.os, k.tape.trans h.tape, k.output.trans h.output, Nat.le_trans h.size k.size, fun i hi hm => (k.block i (Nat.lt_of_lt_of_le hi h.size) hm).trans (h.block i hi hm)⟩
theorem But.of_below {M : Nat} {a b : World} (h : Below a.heap.size a b) : But M a b := ⟨h.os, h.tape, h.output, h.size, fun k hk _ => h.block k hk⟩
theorem But.drew {M : Nat} {a w : World} (h : But M a w) : But M a w.drew := ⟨h.os, h.tape, h.output, h.size, h.block⟩
theorem But.alloc {M : Nat} {a w : World} (h : But M a w) (o : Obj) : But M a (w.alloc o) := h.trans (But.of_below (bnew w o))
theorem But.set {M : Nat} {a w : World} (h : But M a w) (o : Nat) (v : Value) : But M a (w.setCell ⟨M, o, none⟩ v) :=
  h.trans ⟨rfl, rfl, rfl, by simp [World.setCell], fun k _ hm => Below.heap_setCell _ _ _ _ hm⟩
/-- A store into a block that is newer than the start. -/
theorem But.setNew {M : Nat} {a w : World} (h : But M a w) {p : Addr} (hp : a.heap.size ≤ p.block) (v : Value) : But M a (w.setCell p v) :=
  ⟨h.os, h.tape, h.output, by have := h.size; simp [World.setCell]; exact this, fun k hk hm => (Below.heap_setCell _ _ _ _ (by omega)).trans (h.block k hk hm)⟩
theorem But.below {M B : Nat} {a b : World} (h : But M a b) (hB : B ≤ M) (hs : B ≤ a.heap.size) : Below B a b := ⟨h.os, h.tape, h.output, h.size, fun k hk => h.block k (by omega) (by omega)⟩
theorem But.cell {M : Nat} {w w' : World} (h : But M w w') {p : Addr} (hp : p.block < w.heap.size) (hm : p.block ≠ M) : w'.cell? p = w.cell? p := World.cell?_of_block (w := w) (h.block p.block hp hm)

/-- Block M holds something that is no derivation. -/
def Big (w : World) (M : Nat) : Prop := ∃ (C : Array Value) (X : TypeId), w.heap[M]? = some (.cells C X (0, 0)) ∧ C.size = 1152

theorem lt_of_heap {w : World} {b : Nat} {o : Obj} (h : w.heap[b]? = some o) : b < w.heap.size := by
  rcases Nat.lt_or_ge b w.heap.size with h' | h'
  · exact h'
  · rw [Array.getElem?_eq_none h'] at h; cases h

theorem IsD.but {M : Nat} {w w' : World} (hm : Big w M) (hb : But M w w') : ∀ {T : Tr} {d : Nat}, IsD w T d → IsD w' T d := by
  obtain ⟨C, X, hC, hs⟩ := hm
  have key : ∀ {d : Nat} {D : Array Value} {Y : TypeId}, w.heap[d]? = some (.cells D Y (0, 0)) → D.size = 4 → w'.heap[d]? = some (.cells D Y (0, 0)) := by
    intro d D Y h h4
    rw [hb.block d (lt_of_heap h) ?_]; exact h
    intro e; subst e
    rw [hC] at h; cases h; omega
  intro T
  induction T with
  | line i => intro d h; exact key h rfl
  | sum x y ihx ihy => rintro d ⟨c, e, h, hx, hy⟩; exact ⟨c, e, key h rfl, ihx hx, ihy hy⟩
  | half x ih => rintro d ⟨c, h, hx⟩; exact ⟨c, key h rfl, ih hx⟩

theorem IsD.below {w w' : World} (hb : Below w.heap.size w w') : ∀ {T : Tr} {d : Nat}, IsD w T d → IsD w' T d := by
  have key : ∀ {d : Nat} {o : Obj}, w.heap[d]? = some o → w'.heap[d]? = some o := fun h => by rw [hb.block _ (lt_of_heap h)]; exact h
  intro T
  induction T with
  | line i => intro d h; exact key h
  | sum x y ihx ihy => rintro d ⟨c, e, h, hx, hy⟩; exact ⟨c, e, key h, ihx hx, ihy hy⟩
  | half x ih => rintro d ⟨c, h, hx⟩; exact ⟨c, key h, ih hx⟩

theorem IsD.lt {w : World} : ∀ {T : Tr} {d : Nat}, IsD w T d → d < w.heap.size := by
  intro T d h
  cases T with
  | line i => exact lt_of_heap h
  | sum x y => obtain ⟨_, _, h, _⟩ := h; exact lt_of_heap h
  | half x => obtain ⟨_, h, _⟩ := h; exact lt_of_heap h

/-- Bounds in memory. -/
structure Mat (w : World) (M : Nat) (D : Nat → Nat → Int) (T : Nat → Nat → Tr) : Prop where
  big : Big w M
  most : ∀ i j, i < 24 → j < 24 → w.cell? ⟨M, i * 48 + j * 2, none⟩ = some (.int .i64 (D i j))
  why : ∀ i j, i < 24 → j < 24 → ∃ p, w.cell? ⟨M, i * 48 + j * 2 + 1, none⟩ = some (.pointer p) ∧ (D i j ≠ 1152921504606846976 → ∃ d, p = some ⟨d, 0, none⟩ ∧ IsD w (T i j) d)

theorem Big.frozen {w : World} {M : Nat} (h : Big w M) (o : Nat) : w.frozen? ⟨M, o, none⟩ = false := by
  obtain ⟨C, X, hC, _⟩ := h
  simp [World.frozen?, hC]
theorem Big.lt {w : World} {M : Nat} (h : Big w M) : M < w.heap.size := by obtain ⟨C, X, hC, _⟩ := h; exact lt_of_heap hC
theorem Big.below {w w' : World} {M : Nat} (h : Big w M) (hb : Below w.heap.size w w') : Big w' M := by
  obtain ⟨C, X, hC, hs⟩ := h
  exact ⟨C, X, by rw [hb.block _ (lt_of_heap hC)]; exact hC, hs⟩
theorem Big.set {w : World} {M : Nat} (h : Big w M) (o : Nat) (v : Value) : Big (w.setCell ⟨M, o, none⟩ v) M := by
  obtain ⟨C, X, hC, hs⟩ := h
  exact ⟨_, X, heap_setCell_same w M o C X v hC, by simp [hs]⟩
theorem Big.cell {w : World} {M : Nat} (h : Big w M) (o : Nat) (ho : o < 1152) : ∃ x, w.cell? ⟨M, o, none⟩ = some x := by
  obtain ⟨C, X, hC, hs⟩ := h
  exact ⟨C[o]'(by omega), by simp [World.cell?, hC]⟩

theorem Mat.below {w w' : World} {M : Nat} {D : Nat → Nat → Int} {T : Nat → Nat → Tr} (h : Mat w M D T) (hb : Below w.heap.size w w') : Mat w' M D T := by
  have hM := h.big.lt
  obtain ⟨hc, _⟩ := bcell hb
  refine ⟨h.big.below hb, fun i j hi hj => by rw [hc _ _ hM]; exact h.most i j hi hj, fun i j hi hj => ?_⟩
  obtain ⟨p, h1, h2⟩ := h.why i j hi hj
  refine ⟨p, by rw [hc _ _ hM]; exact h1, fun hf => ?_⟩
  obtain ⟨d, e, hd⟩ := h2 hf
  exact ⟨d, e, hd.below hb⟩

theorem cset_same {w : World} {M o : Nat} {u : Value} (v : Value) (h : w.cell? ⟨M, o, none⟩ = some u) : (w.setCell ⟨M, o, none⟩ v).cell? ⟨M, o, none⟩ = some v := by
  exact World.cell?_setCell_same (h := h) ..
theorem cset_other {w : World} {M o o' : Nat} {v : Value} (h : o ≠ o') : (w.setCell ⟨M, o, none⟩ v).cell? ⟨M, o', none⟩ = w.cell? ⟨M, o', none⟩ := by
  apply World.cell?_setCell_other
  intro e; cases e; exact h rfl
/-- One entry of the bounds is written. -/
theorem Mat.write {w : World} {M : Nat} {D : Nat → Nat → Int} {T : Nat → Nat → Tr} (h : Mat w M D T) {i j : Nat} (hi : i < 24) (hj : j < 24) (c : Int) (X : Tr) (d : Nat) (hd : IsD w X d) :
    Mat ((w.setCell ⟨M, i * 48 + j * 2, none⟩ (.int .i64 c)).setCell ⟨M, i * 48 + j * 2 + 1, none⟩ (.pointer (some ⟨d, 0, none⟩))) M
      (fun a b => if a = i ∧ b = j then c else D a b) (fun a b => if a = i ∧ b = j then X else T a b) := by
  have b1 := h.big.set (i * 48 + j * 2) (.int .i64 c)
  have b2 := b1.set (i * 48 + j * 2 + 1) (.pointer (some ⟨d, 0, none⟩))
  have hbut : But M w ((w.setCell ⟨M, i * 48 + j * 2, none⟩ (.int .i64 c)).setCell ⟨M, i * 48 + j * 2 + 1, none⟩ (.pointer (some ⟨d, 0, none⟩))) := ((But.refl M w).set _ _).set _ _
  refine ⟨b2, fun a b ha hb => ?_, fun a b ha hb => ?_⟩
  · rw [cset_other (by omega)]
    by_cases e : a = i ∧ b = j
    · obtain ⟨rfl, rfl⟩ := e
      simp only [and_self, if_true]
      exact cset_same _ (h.most a b ha hb)
    · simp only [e, if_false]
      rw [cset_other (by omega)]
      exact h.most a b ha hb
  · by_cases e : a = i ∧ b = j
    · obtain ⟨rfl, rfl⟩ := e
      simp only [and_self, if_true]
      obtain ⟨p, h1, h2⟩ := h.why a b ha hb
      refine ⟨some ⟨d, 0, none⟩, ?_, fun _ => ⟨d, rfl, hd.but h.big hbut⟩⟩
      refine cset_same (u := .pointer p) _ ?_
      rw [cset_other (by omega)]
      exact h1
    · simp only [e, if_false]
      obtain ⟨p, h1, h2⟩ := h.why a b ha hb
      refine ⟨p, ?_, fun hf => ?_⟩
      · rw [cset_other (by omega), cset_other (by omega)]
        exact h1
      · obtain ⟨d', e', hd'⟩ := h2 hf
        exact ⟨d', e', hd'.but h.big hbut⟩
end Go.Proofs.Ytnjbahiaelehkaa
