/- The reference: half, asked, refutes, SameInts; blocks of numbers. -/
import Derived.Test.YtnjbahiaelehkaaB1
import Derived.Test.YtnjbahiaelehkaaA16
import Derived.Test.YtnjbahiaelehkaaM5
import Derived.Deep.QuietTactic
import Derived.BigQuiet
import Derived.Deep.OwnRows
namespace Go.Proofs.Ytnjbahiaelehkaa
open Go.RowKit

theorem rhalf_any (n : Int) (h : -2305843009213693952 ≤ n ∧ n ≤ 2305843009213693952) (w : World) : Calls Try.prog 104 #[.int .i64 n] w (RetS (.int .i64 (n / 2)) w) := by
  go_enter Try.func104, Try.ntmps104
  go_wp2
  all_goals go_ret
  all_goals exact ⟨ret_int (by omega), rfl⟩

set_option maxHeartbeats 1000000 in
theorem asked_any (n : Int) (l : List AM) (A P B Q M : Int) (a : Option Addr) (cap : Nat) (w : World) (hl : Rd w a l) (hlen : l.length ≤ 9223372036854775807) :
    Calls Try.prog 59 #[.int .i64 n, .slice a l.length cap, .agg #[.int .i64 A, .int .i64 P, .int .i64 B, .int .i64 Q, .int .i64 M]] w (RetB (.int .i64 (lineN n l ⟨A, P, B, Q, M⟩)) w) := by
  have HL := hid hl; clear hl
  by_cases h1 : checkN n l = 0
  · obtain ⟨⟨hn1, hn2⟩, _, _⟩ := checkN_in h1
    have H1 := hid h1; clear h1
    go_enter Try.func59, Try.ntmps59
    go_wp2_with (first | (go_at_call 32; refine (rcheck_any n l a cap _ (HL.out.below (bnew _ _)) hlen).mono ?_; rw [H1.out]; rintro e w' ⟨rfl, hb'⟩; obtain ⟨hc', hf'⟩ := bcell hb') | (go_at_call 76; refine (rright_any n A P B Q M hn1 hn2 _).mono ?_; rintro e w2 ⟨rfl, hb2⟩))
    · have ht : (!rightB n ⟨A, P, B, Q, M⟩) = true := by assumption
      go_ret
      exact ⟨ret_int (by simp at ht; simp [lineN, H1.out, ht]), ((bnew _ _).step hb').step hb2⟩
    · have ht : (!rightB n ⟨A, P, B, Q, M⟩) = false := by assumption
      go_ret
      exact ⟨ret_int (by simp at ht; simp [lineN, H1.out, ht]), ((bnew _ _).step hb').step hb2⟩
  · have h1' : (checkN n l == 0) = false := by simpa using h1
    go_enter Try.func59, Try.ntmps59
    go_wp2_with (go_at_call 32; refine (rcheck_any n l a cap _ (HL.out.below (bnew _ _)) hlen).mono ?_; rintro e w' ⟨rfl, hb'⟩)
    go_ret
    exact ⟨ret_int (by simp [lineN, h1]), (bnew _ _).step hb'⟩

/-- Block g holds the numbers X 0 .. X (n - 1). -/
def IB (w : World) (g n : Nat) (X : Nat → Int) : Prop := ∃ C, w.heap[g]? = some (.cells C 3 (0, 0)) ∧ C.size = n ∧ ∀ k, k < n → C[k]? = some (.int .i64 (X k))
theorem IB.cell {w : World} {g n : Nat} {X : Nat → Int} (h : IB w g n X) {k : Nat} (hk : k < n) : w.cell? ⟨g, k, none⟩ = some (.int .i64 (X k)) := by
  obtain ⟨C, h1, _, h3⟩ := h
  rw [cell_of_row _ _ _ _ _ _ h1]
  exact h3 k hk
theorem IB.lt {w : World} {g n : Nat} {X : Nat → Int} (h : IB w g n X) : g < w.heap.size := by
  obtain ⟨C, h1, _⟩ := h
  exact lt_of_heap h1
theorem IB.frozen {w : World} {g n : Nat} {X : Nat → Int} (h : IB w g n X) (k : Nat) : w.frozen? ⟨g, k, none⟩ = false := by
  obtain ⟨C, h1, _⟩ := h
  simp [World.frozen?, h1]
theorem IB.keep {w w' : World} {g n : Nat} {X : Nat → Int} (h : IB w g n X) (e : w'.heap[g]? = w.heap[g]?) : IB w' g n X := by
  obtain ⟨C, h1, h2⟩ := h
  exact ⟨C, by rw [e]; exact h1, h2⟩
theorem IB.below {w w' : World} {g n : Nat} {X : Nat → Int} (h : IB w g n X) (hb : Below w.heap.size w w') : IB w' g n X := h.keep (hb.block g h.lt)
theorem IB.set {w : World} {g n : Nat} {X : Nat → Int} (h : IB w g n X) {k : Nat} (v : Int) : IB (w.setCell ⟨g, k, none⟩ (.int .i64 v)) g n (fun j => if j = k then v else X j) := by
  obtain ⟨C, h1, h2, h3⟩ := h
  refine ⟨_, heap_setCell_same w g k C 3 _ h1, by simp [h2], fun j hj => ?_⟩
  rw [Array.getElem?_setIfInBounds]
  by_cases e : k = j
  · subst e
    rw [if_pos rfl, if_pos (by omega)]
    show _ = some (Value.int .i64 (if k = k then v else X k))
    rw [if_pos rfl]
  · rw [if_neg e]
    show _ = some (Value.int .i64 (if j = k then v else X j))
    rw [if_neg (fun h => e (Eq.symm h))]
    exact h3 j hj
theorem IB.off {w : World} {g n b k : Nat} {X : Nat → Int} {u : Value} (h : IB w g n X) (hne : g ≠ b) : IB (w.setCell ⟨b, k, none⟩ u) g n X := h.keep (Below.heap_setCell _ _ _ _ (by exact hne))
theorem IB.new (w : World) (n : Nat) : IB (w.alloc (.cells (madeCells #[.int .i64 0] n) 3)) w.heap.size n (fun _ => 0) := by
  refine ⟨_, heapn _ _ _ rfl, by simp [madeCells], fun k hk => ?_⟩
  simp [madeCells, hk, Nat.mod_one]

theorem bdrewN {B : Nat} {a w : World} (h : Below B a w) (n : Nat) : Below B a (w.drewN n) := ⟨h.os, h.tape, h.output, h.size, h.block⟩
def nzB (n : Nat) (X : Nat → Int) : Prop := ∀ k, k < n → X k = 0
set_option maxHeartbeats 1000000 in
theorem refutes_any (n g : Nat) (X : Nat → Int) (N : Int) (cap : Nat) (w : World) (hX : IB w g n X) (hn : n ≤ 1000) :
    Calls Try.prog 80 #[.agg #[.slice (some ⟨g, 0, none⟩) n cap, .int .i64 N]] w (RetB (.bool (noneS n ⟨X, N⟩)) w) := by
  have HX := hid hX; clear hX
  go_enter Try.func80, Try.ntmps80
  go_wp2
  go_loop [3] (fun i => ∃ k : Nat, k ≤ n ∧ i = .int .i64 k ∧ nzB k X) (fun i => n - (intOf i).toNat)
  case atStart => exact ⟨0, Nat.zero_le _, rfl, fun k hk => absurd hk (Nat.not_lt_zero k)⟩
  case round =>
    obtain ⟨k, hk, rfl, hz⟩ := hrel
    have HZ := hid hz; clear hz
    by_cases hlt : k < n
    · have hc := HX.out.cell hlt
      have hg := HX.out.lt
      go_wp2
      · have ht : (X k != 0) = true := by assumption
        go_ret
        refine ⟨ret_bool ?_, bnew _ _⟩
        have h0 : ¬(X k = 0) := by simpa using ht
        have : zeroX n X = false := by
          unfold zeroX
          rw [decide_eq_false_iff_not]
          exact fun h => h0 (h k hlt)
        unfold noneS
        rw [this]
        rfl
      · have ht : (X k != 0) = false := by assumption
        go_round
        case rel =>
          refine ⟨k + 1, by omega, by go_num, fun j hj => ?_⟩
          by_cases e : j < k
          · exact HZ.out j e
          · have : j = k := by omega
            subst this
            simpa using ht
        case measure => simp [intOf]; omega
    · go_wp2
      go_ret
      refine ⟨ret_bool ?_, bnew _ _⟩
      have : zeroX n X = true := by
        unfold zeroX
        rw [decide_eq_true_eq]
        exact fun j hj => HZ.out j (by omega)
      unfold noneS
      rw [this]
      rfl

set_option maxHeartbeats 1000000 in
theorem same_ints (x y : List Int) (a b : Option Addr) (cap cap' : Nat) (w : World) (hx : RdI w a x) (hy : RdI w b y) (hl : x.length ≤ 1000000) (hl' : y.length ≤ 1000000) :
    Calls Try.prog 48 #[.slice a x.length cap, .slice b y.length cap'] w (RetB (.bool (decide (x = y))) w) := by
  have HX := hid hx; clear hx
  have HY := hid hy; clear hy
  by_cases hlen : x.length = y.length
  · have HLEN := hid hlen
    have hne : ((x.length : Int) != (y.length : Int)) = false := by simp [hlen]
    clear hlen
    go_enter Try.func48, Try.ntmps48
    go_wp2
    clear hne
    go_loopw [5] (fun i wr => ∃ k : Nat, k ≤ x.length ∧ i = .int .i64 k ∧ Below w.heap.size w wr ∧ x.take k = y.take k) (fun i _ => x.length - (intOf i).toNat)
    case atStart => exact ⟨0, Nat.zero_le _, rfl, Below.refl _ _, rfl⟩
    case round =>
      obtain ⟨k, hk, rfl, hbw, hq⟩ := hrel
      have HQ := hid hq; clear hq
      by_cases hlt : k < x.length
      · have hlt' : k < y.length := by have := HLEN.out; omega
        obtain ⟨b1, o1, ha, h1, hc1⟩ := HX.out.below hbw k hlt
        obtain ⟨b2, o2, hb, h2, hc2⟩ := HY.out.below hbw k hlt'
        subst ha; subst hb
        go_upto_region 6 with fail
        go_quiet (fail)
        go_wp2
        · have ht : (x[k] != y[k]) = true := by assumption
          go_ret
          refine ⟨ret_bool ?_, bdrewN hbw _⟩
          rw [eq_comm, decide_eq_false_iff_not]
          rintro rfl
          simp at ht
        · have ht : (x[k] != y[k]) = false := by assumption
          go_roundw
          case rel =>
            refine ⟨k + 1, by omega, by go_num, bdrewN hbw _, ?_⟩
            rw [take_last hlt, take_last hlt', HQ.out]
            have : x[k] = y[k] := by simpa using ht
            rw [this]
          case measure => simp [intOf]; omega
      · go_wp2
        go_ret
        refine ⟨ret_bool ?_, hbw⟩
        rw [eq_comm, decide_eq_true_eq]
        have h := HQ.out
        rw [List.take_of_length_le (by omega), List.take_of_length_le (by have := HLEN.out; omega)] at h
        exact h
  · have hne : ((x.length : Int) != (y.length : Int)) = true := by simp; omega
    go_enter Try.func48, Try.ntmps48
    go_wp2
    go_ret
    refine ⟨ret_bool ?_, Below.refl _ _⟩
    rw [eq_comm, decide_eq_false_iff_not]
    rintro rfl
    exact hlen rfl
end Go.Proofs.Ytnjbahiaelehkaa
