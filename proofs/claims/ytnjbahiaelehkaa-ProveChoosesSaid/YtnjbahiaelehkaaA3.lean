/- Contracts of end, other, floor, half and sum of package prove. -/
import Derived.Test.YtnjbahiaelehkaaA2
namespace Go.Proofs.Ytnjbahiaelehkaa
open Go.RowKit

theorem end_any (k s : Int) (h0 : 0 ≤ k) (h1 : k ≤ 1000) (w : World) : Calls Try.prog 63 #[.int .i64 k, .int .i64 s] w (RetS (.int .i64 (nd k s)) w) := by
  go_enter Try.func63, Try.ntmps63
  go_wp2
  all_goals go_ret
  · exact ⟨ret_int (by simp [nd, *]; omega), rfl⟩
  · exact ⟨ret_int (by have : ¬ 0 < s := by omega
                       simp [nd, this]; omega), rfl⟩

theorem other_any (i : Nat) (h1 : i < 24) (w : World) : Calls Try.prog 96 #[.int .i64 i] w (RetS (.int .i64 (ot i)) w) := by
  go_enter Try.func96, Try.ntmps96
  go_wp2
  go_ret
  refine ⟨ret_int ?_, rfl⟩
  have h : ∀ i : Fin 24, bits BinOp.xor IntKind.i64 (i.val : Int) 1 = (ot i.val : Int) := by decide
  exact h ⟨i, h1⟩

theorem floor_any (n : Int) (w : World) : Calls Try.prog 97 #[.int .i64 n] w (RetS (.int .i64 (n / 2)) w) := by
  go_enter Try.func97, Try.ntmps97
  go_wp2
  go_ret
  exact ⟨ret_int (by simp), rfl⟩

/-- A derivation in memory. -/
def IsD (w : World) : Tr → Nat → Prop
  | .line i, b => w.heap[b]? = some (.cells #[.int .i64 1, .int .i64 i, .pointer none, .pointer none] 164 (0, 0))
  | .sum x y, b => ∃ c d, w.heap[b]? = some (.cells #[.int .i64 2, .int .i64 0, .pointer (some ⟨c, 0, none⟩), .pointer (some ⟨d, 0, none⟩)] 164 (0, 0)) ∧ IsD w x c ∧ IsD w y d
  | .half x, b => ∃ c, w.heap[b]? = some (.cells #[.int .i64 3, .int .i64 0, .pointer (some ⟨c, 0, none⟩), .pointer none] 164 (0, 0)) ∧ IsD w x c

theorem half_any (a : Option Addr) (w : World) : Calls Try.prog 98 #[.pointer a] w fun e w' => e = .returned (.pointer (some ⟨w.heap.size, 0, none⟩)) ∧ w' = w.alloc (.cells #[.int .i64 3, .int .i64 0, .pointer a, .pointer none] 164) := by
  go_enter Try.func98, Try.ntmps98
  go_wp2
  go_ret
  exact ⟨rfl, rfl⟩
theorem sum_any (a b : Option Addr) (w : World) : Calls Try.prog 99 #[.pointer a, .pointer b] w fun e w' => e = .returned (.pointer (some ⟨w.heap.size, 0, none⟩)) ∧ w' = w.alloc (.cells #[.int .i64 2, .int .i64 0, .pointer a, .pointer b] 164) := by
  go_enter Try.func99, Try.ntmps99
  go_wp2
  go_ret
  exact ⟨rfl, rfl⟩

theorem less_no (b o : Nat) (most old : Int) (f : Value) (w : World) (hc : w.cell? ⟨b, o, none⟩ = some (.int .i64 old)) (h : old ≤ most) :
    Calls Try.prog 100 #[.pointer (some ⟨b, o, none⟩), .int .i64 most, f] w (RetS (.bool false) w) := by
  go_enter Try.func100, Try.ntmps100
  go_wp2
  go_ret
  exact ⟨rfl, rfl⟩

def LessYes (b o : Nat) (most : Int) (Post : Value → World → Prop) (e : Ending) (w' : World) : Prop :=
  e = .returned (.bool true) ∧ ∃ v w1, Post v w1 ∧ w' = (w1.setCell ⟨b, o, none⟩ (.int .i64 most)).setCell ⟨b, o + 1, none⟩ v
def WhyPost (Post : Value → World → Prop) (e : Ending) (w1 : World) : Prop := ∃ v, e = .returned v ∧ Post v w1

theorem less_yes113 (b o : Nat) (most old : Int) (c1 : Value) (Post : Value → World → Prop) (w : World) (hc : w.cell? ⟨b, o, none⟩ = some (.int .i64 old)) (h : most < old)
    (hwhy : Calls Try.prog 113 #[c1] w (WhyPost Post))
    (hP : ∀ v w1, Post v w1 → (∃ p, v = .pointer p) ∧ (∃ x, w1.cell? ⟨b, o, none⟩ = some x) ∧ (∃ x, w1.cell? ⟨b, o + 1, none⟩ = some x) ∧ w1.frozen? ⟨b, o, none⟩ = false ∧ w1.frozen? ⟨b, o + 1, none⟩ = false) :
    Calls Try.prog 100 #[.pointer (some ⟨b, o, none⟩), .int .i64 most, .func (.func 113) #[] #[c1]] w (LessYes b o most Post) := by
  have HW := hid hwhy; clear hwhy
  have HP := hid hP; clear hP
  go_enter Try.func100, Try.ntmps100
  go_wp2_with fail
  refine HW.out.mono ?_
  rintro e w1 ⟨v, rfl, hpost⟩
  obtain ⟨⟨p, rfl⟩, ⟨x, hx⟩, ⟨y, hy⟩, f1, f2⟩ := HP.out v w1 hpost
  have hy' : (w1.setCell ⟨b, o, none⟩ (.int .i64 most)).cell? ⟨b, o + 1, none⟩ = some y := by rw [World.cell?_setCell_other]; exact hy; simp
  go_wp2
  go_ret
  exact ⟨rfl, _, _, hpost, rfl⟩
theorem less_yes114 (b o : Nat) (most old : Int) (c1 : Value) (Post : Value → World → Prop) (w : World) (hc : w.cell? ⟨b, o, none⟩ = some (.int .i64 old)) (h : most < old)
    (hwhy : Calls Try.prog 114 #[c1] w (WhyPost Post))
    (hP : ∀ v w1, Post v w1 → (∃ p, v = .pointer p) ∧ (∃ x, w1.cell? ⟨b, o, none⟩ = some x) ∧ (∃ x, w1.cell? ⟨b, o + 1, none⟩ = some x) ∧ w1.frozen? ⟨b, o, none⟩ = false ∧ w1.frozen? ⟨b, o + 1, none⟩ = false) :
    Calls Try.prog 100 #[.pointer (some ⟨b, o, none⟩), .int .i64 most, .func (.func 114) #[] #[c1]] w (LessYes b o most Post) := by
  have HW := hid hwhy; clear hwhy
  have HP := hid hP; clear hP
  go_enter Try.func100, Try.ntmps100
  go_wp2_with fail
  refine HW.out.mono ?_
  rintro e w1 ⟨v, rfl, hpost⟩
  obtain ⟨⟨p, rfl⟩, ⟨x, hx⟩, ⟨y, hy⟩, f1, f2⟩ := HP.out v w1 hpost
  have hy' : (w1.setCell ⟨b, o, none⟩ (.int .i64 most)).cell? ⟨b, o + 1, none⟩ = some y := by rw [World.cell?_setCell_other]; exact hy; simp
  go_wp2
  go_ret
  exact ⟨rfl, _, _, hpost, rfl⟩
theorem less_yes115 (b o : Nat) (most old : Int) (c1 c2 : Value) (Post : Value → World → Prop) (w : World) (hc : w.cell? ⟨b, o, none⟩ = some (.int .i64 old)) (h : most < old)
    (hwhy : Calls Try.prog 115 #[c1, c2] w (WhyPost Post))
    (hP : ∀ v w1, Post v w1 → (∃ p, v = .pointer p) ∧ (∃ x, w1.cell? ⟨b, o, none⟩ = some x) ∧ (∃ x, w1.cell? ⟨b, o + 1, none⟩ = some x) ∧ w1.frozen? ⟨b, o, none⟩ = false ∧ w1.frozen? ⟨b, o + 1, none⟩ = false) :
    Calls Try.prog 100 #[.pointer (some ⟨b, o, none⟩), .int .i64 most, .func (.func 115) #[] #[c1, c2]] w (LessYes b o most Post) := by
  have HW := hid hwhy; clear hwhy
  have HP := hid hP; clear hP
  go_enter Try.func100, Try.ntmps100
  go_wp2_with fail
  refine HW.out.mono ?_
  rintro e w1 ⟨v, rfl, hpost⟩
  obtain ⟨⟨p, rfl⟩, ⟨x, hx⟩, ⟨y, hy⟩, f1, f2⟩ := HP.out v w1 hpost
  have hy' : (w1.setCell ⟨b, o, none⟩ (.int .i64 most)).cell? ⟨b, o + 1, none⟩ = some y := by rw [World.cell?_setCell_other]; exact hy; simp
  go_wp2
  go_ret
  exact ⟨rfl, _, _, hpost, rfl⟩
theorem less_yes101 (b o : Nat) (most old : Int) (c1 c2 : Value) (Post : Value → World → Prop) (w : World) (hc : w.cell? ⟨b, o, none⟩ = some (.int .i64 old)) (h : most < old)
    (hwhy : Calls Try.prog 101 #[c1, c2] w (WhyPost Post))
    (hP : ∀ v w1, Post v w1 → (∃ p, v = .pointer p) ∧ (∃ x, w1.cell? ⟨b, o, none⟩ = some x) ∧ (∃ x, w1.cell? ⟨b, o + 1, none⟩ = some x) ∧ w1.frozen? ⟨b, o, none⟩ = false ∧ w1.frozen? ⟨b, o + 1, none⟩ = false) :
    Calls Try.prog 100 #[.pointer (some ⟨b, o, none⟩), .int .i64 most, .func (.func 101) #[] #[c1, c2]] w (LessYes b o most Post) := by
  have HW := hid hwhy; clear hwhy
  have HP := hid hP; clear hP
  go_enter Try.func100, Try.ntmps100
  go_wp2_with fail
  refine HW.out.mono ?_
  rintro e w1 ⟨v, rfl, hpost⟩
  obtain ⟨⟨p, rfl⟩, ⟨x, hx⟩, ⟨y, hy⟩, f1, f2⟩ := HP.out v w1 hpost
  have hy' : (w1.setCell ⟨b, o, none⟩ (.int .i64 most)).cell? ⟨b, o + 1, none⟩ = some y := by rw [World.cell?_setCell_other]; exact hy; simp
  go_wp2
  go_ret
  exact ⟨rfl, _, _, hpost, rfl⟩
end Go.Proofs.Ytnjbahiaelehkaa
