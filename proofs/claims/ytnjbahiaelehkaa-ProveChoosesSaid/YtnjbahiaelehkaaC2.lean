/- line, Three of the laws' package. -/
import Derived.Test.YtnjbahiaelehkaaC1
namespace Go.Proofs.Ytnjbahiaelehkaa
open Go.RowKit

theorem lline_any (p a q b m : Int) (w : World) : Calls Try.prog 55 #[.int .i64 p, .int .i64 a, .int .i64 q, .int .i64 b, .int .i64 m] w (RetB (.agg #[.int .i64 a, .int .i64 p, .int .i64 b, .int .i64 q, .int .i64 m]) w) := by
  go_enter Try.func55, Try.ntmps55
  go_wp2
  refine bodyPost_ret (v := .agg #[.int .i64 a, .int .i64 p, .int .i64 b, .int .i64 q, .int .i64 m]) (by simp [results, Try.results55, go_sem]) rfl ⟨rfl, ?_⟩
  first | exact bnew _ _ | exact (((((bnew _ _).setCell (Nat.le_refl _) _).setCell (Nat.le_refl _) _).setCell (Nat.le_refl _) _).setCell (Nat.le_refl _) _).setCell (Nat.le_refl _) _

def RetL (l : List AM) (w : World) (e : Ending) (w' : World) : Prop := Below w.heap.size w w' ∧ ∃ v, e = .returned v ∧ OwnL w' w.heap.size v l
/-- A new slice of given lines. -/
theorem OwnL.new (w : World) (l : List AM) (base : Nat) (hb : base ≤ w.heap.size) (hl : l.length ≤ 1000) : OwnL (w.alloc (.cells (l.flatMap c5).toArray 24)) base (.slice (some ⟨w.heap.size, 0, none⟩) l.length l.length) l := by
  refine ⟨c5_length l, .inr ⟨w.heap.size, l.length, (l.flatMap c5).toArray, rfl, hb, heapn _ _ _ rfl, Nat.le_refl _, by unfold maxLen; omega, by rw [List.size_toArray, c5_length], ?_⟩⟩
  rw [List.take_of_length_le (by rw [c5_length]; exact Nat.le_refl _)]
set_option maxRecDepth 100000 in
theorem three_any (w : World) : Calls Try.prog 54 #[] w (RetL threeL w) := by
  have HB := hid (Below.refl w.heap.size w)
  go_enter Try.func54, Try.ntmps54
  go_wp2_with (go_at_call 55; refine (lline_any _ _ _ _ _ _).mono ?_; rintro e w' ⟨rfl, hb⟩; have HB := hid (HB.out.step hb); clear hb)
  go_ret
  exact ⟨HB.out.step (bnew _ _), _, rfl, OwnL.new _ threeL _ HB.out.size (by decide)⟩
end Go.Proofs.Ytnjbahiaelehkaa
