/- Contracts of the small functions of package prove. -/
import Derived.Test.YtnjbahiaelehkaaProg
import Derived.Test.YtnjbahiaelehkaaM1
import Derived.WalkKit
import Derived.WalkSpells
import Derived.WalkLawsBesides
namespace Go.Proofs.Ytnjbahiaelehkaa
open Go.RowKit
theorem hid {p : Prop} (h : p) : Hid p := h

theorem ret_bool {a b : Bool} (h : a = b) : Ending.returned (.bool a) = .returned (.bool b) := by rw [h]
theorem ret_int {k : IntKind} {a b : Int} (h : a = b) : Ending.returned (.int k a) = .returned (.int k b) := by rw [h]
theorem ret_val {a b : Value} (h : a = b) : Ending.returned a = .returned b := by rw [h]
/-- A call that returns a value and leaves the world alone. -/
def RetS (v : Value) (w : World) (e : Ending) (w' : World) : Prop := e = .returned v ∧ w = w'
/-- A call that returns a value and changes nothing that was there. -/
def RetB (v : Value) (w : World) (e : Ending) (w' : World) : Prop := e = .returned v ∧ Below w.heap.size w w'

theorem bcell {W w1 : World} (hb : Below W.heap.size W w1) : (∀ b o, b < W.heap.size → w1.cell? ⟨b, o, none⟩ = W.cell? ⟨b, o, none⟩) ∧ (∀ b o, b < W.heap.size → w1.frozen? ⟨b, o, none⟩ = W.frozen? ⟨b, o, none⟩) :=
  ⟨fun b o h => hb.cell (p := ⟨b, o, none⟩) h, fun b o h => hb.frozen (p := ⟨b, o, none⟩) h⟩

def inB (n lo hi : Int) : Bool := decide (lo ≤ n ∧ n ≤ hi)

set_option maxHeartbeats 400000 in
theorem within_any (n lo hi : Int) (w : World) :
    Calls Try.prog 71 #[.int .i64 n, .int .i64 lo, .int .i64 hi] w (RetS (.bool (inB n lo hi)) w) := by
  go_enter Try.func71, Try.ntmps71
  go_wp2
  all_goals go_ret
  all_goals exact ⟨ret_bool (by simp [inB]; omega), rfl⟩

def AM.val (a : AM) : Value := .agg #[.int .i64 a.A, .int .i64 a.P, .int .i64 a.B, .int .i64 a.Q, .int .i64 a.M]
def rightB (n : Int) (a : AM) : Bool :=
  decide ((0 ≤ a.A ∧ a.A ≤ n - 1) ∧ (a.P = 1 ∨ a.P = -1) ∧ (-1 ≤ a.Q ∧ a.Q ≤ 1) ∧ (-1000000 ≤ a.M ∧ a.M ≤ 1000000) ∧ (if a.Q = 0 then a.B = 0 else (0 ≤ a.B ∧ a.B ≤ n - 1) ∧ a.B ≠ a.A))

set_option maxHeartbeats 400000 in
theorem right_any (n A P B Q M : Int) (hn : 1 ≤ n) (hn' : n ≤ 12) (w : World) :
    Calls Try.prog 75 #[.int .i64 n, .agg #[.int .i64 A, .int .i64 P, .int .i64 B, .int .i64 Q, .int .i64 M]] w (RetB (.bool (rightB n ⟨A, P, B, Q, M⟩)) w) := by
  go_enter Try.func75, Try.ntmps75
  go_wp2_with (go_at_call 71; refine (within_any _ _ _ _).mono ?_; rintro e w' ⟨rfl, rfl⟩)
  all_goals go_ret
  all_goals refine ⟨ret_bool ?_, (Below.refl _ _).alloc (Nat.le_refl _) _⟩
  all_goals rw [Bool.eq_iff_iff]
  all_goals simp [rightB, inB] at *
  all_goals first | omega | (split <;> omega)

/-- A list of lines, read off a slice. -/
def AMat (w : World) (b o : Nat) (x : AM) : Prop :=
  w.cell? ⟨b, o, none⟩ = some (.int .i64 x.A) ∧ w.cell? ⟨b, o + 1, none⟩ = some (.int .i64 x.P) ∧ w.cell? ⟨b, o + 2, none⟩ = some (.int .i64 x.B) ∧ w.cell? ⟨b, o + 3, none⟩ = some (.int .i64 x.Q) ∧ w.cell? ⟨b, o + 4, none⟩ = some (.int .i64 x.M)

def Rd (w : World) (a : Option Addr) (l : List AM) : Prop :=
  ∀ i (h : i < l.length), ∃ b off, a = some ⟨b, off, none⟩ ∧ b < w.heap.size ∧ AMat w b (off + i * 5) l[i]

theorem Rd.below {w w' : World} {a : Option Addr} {l : List AM} (h : Rd w a l) (hb : Below w.heap.size w w') : Rd w' a l := by
  intro i hi
  obtain ⟨b, off, ha, hlt, h1, h2, h3, h4, h5⟩ := h i hi
  obtain ⟨hc, _⟩ := bcell hb
  exact ⟨b, off, ha, Nat.lt_of_lt_of_le hlt hb.size, by rw [hc _ _ hlt]; exact h1, by rw [hc _ _ hlt]; exact h2, by rw [hc _ _ hlt]; exact h3, by rw [hc _ _ hlt]; exact h4, by rw [hc _ _ hlt]; exact h5⟩

theorem bnew (w : World) (o : Obj) : Below w.heap.size w (w.alloc o) := (Below.refl _ _).alloc (Nat.le_refl _) _
theorem lt_alloc (w : World) (o : Obj) : w.heap.size < (w.alloc o).heap.size := by simp
theorem cell0_alloc (w : World) (v : Value) (T : TypeId) : (w.alloc (.cells #[v] T)).cell? ⟨w.heap.size, 0, none⟩ = some v := by simp
theorem _root_.Go.RowKit.Below.step {w w1 w2 : World} (h : Below w.heap.size w w1) (k : Below w1.heap.size w1 w2) : Below w.heap.size w w2 := h.trans (k.mono h.size)

set_option maxHeartbeats 400000 in
theorem check1_any (n A P B Q M : Int) (b o : Nat) (hn : 1 ≤ n) (hn' : n ≤ 12) (w : World) (hc : w.cell? ⟨b, o, none⟩ = some (.int .i64 n)) (hb : b < w.heap.size) :
    Calls Try.prog 74 #[.agg #[.int .i64 A, .int .i64 P, .int .i64 B, .int .i64 Q, .int .i64 M], .pointer (some ⟨b, o, none⟩)] w (RetB (.bool (!rightB n ⟨A, P, B, Q, M⟩)) w) := by
  go_enter Try.func74, Try.ntmps74
  go_wp2_with (go_at_call 75; refine (right_any n A P B Q M hn hn' _).mono ?_; rintro e w' ⟨rfl, hb'⟩)
  go_ret
  refine ⟨rfl, (((Below.refl _ _).alloc (Nat.le_refl _) _).trans (hb'.mono (by simp)))⟩

end Go.Proofs.Ytnjbahiaelehkaa
