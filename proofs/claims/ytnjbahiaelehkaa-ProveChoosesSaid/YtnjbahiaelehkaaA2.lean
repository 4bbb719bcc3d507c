/- Contracts of Check, line and index of package prove. -/
import Derived.Test.YtnjbahiaelehkaaA1
namespace Go.Proofs.Ytnjbahiaelehkaa
open Go.RowKit

theorem take_last {α : Type} {l : List α} {k : Nat} (h : k < l.length) : l.take (k + 1) = l.take k ++ [l[k]] := by
  rw [List.take_succ_eq_append_getElem h]

def IdxPost (n : Int) (l : List AM) (w : World) (e : Ending) (w' : World) : Prop :=
  Below w.heap.size w w' ∧ ∃ i : Int, e = .returned (.int .i64 i) ∧ (0 ≤ i ↔ ∃ x, x ∈ l ∧ rightB n x = false)

set_option maxHeartbeats 1000000 in
theorem index_func (n : Int) (b o : Nat) (hn : 1 ≤ n) (hn' : n ≤ 12) (l : List AM) (a : Option Addr) (cap : Nat) (w : World) (hc : w.cell? ⟨b, o, none⟩ = some (.int .i64 n)) (hb : b < w.heap.size) (hl : Rd w a l)
    (hlen : l.length ≤ 1000000) :
    Calls Try.prog 109 #[.slice a l.length cap, .func (.func 74) #[] #[.pointer (some ⟨b, o, none⟩)]] w (IdxPost n l w) := by
  have HL := hid hl; clear hl
  have HC := hid hc; clear hc
  go_enter Try.func109, Try.ntmps109
  go_wp2
  go_loopw [8] (fun i wr => ∃ k : Nat, k ≤ l.length ∧ i = .int .i64 k ∧ Below w.heap.size w wr ∧ ∀ x, x ∈ l.take k → rightB n x = true) (fun i _ => l.length - (intOf i).toNat)
  case atStart => exact ⟨0, Nat.zero_le _, rfl, Below.refl _ _, by simp⟩
  case round =>
    obtain ⟨k, hk, rfl, hbw, hq⟩ := hrel
    have HQ := hid hq; clear hq
    by_cases hlt : k < l.length
    · obtain ⟨b2, off, ha, hlt2, h1, h2, h3, h4, h5⟩ := HL.out.below hbw k hlt
      subst ha
      have hcw : wr.cell? ⟨b, o, none⟩ = some (.int .i64 n) := by rw [(bcell hbw).1 _ _ hb]; exact HC.out
      have hbr : b < wr.heap.size := Nat.lt_of_lt_of_le hb hbw.size
      go_wp2_with (go_at_call 74; refine (check1_any n _ _ _ _ _ b o hn hn' _ hcw hbr).mono ?_; rintro e w' ⟨rfl, hb'⟩)
      · have ht : (!rightB n l[k]) = true := by assumption
        go_ret
        refine ⟨hbw.trans (hb'.mono hbw.size), (k : Int), rfl, ?_⟩
        exact ⟨fun _ => ⟨l[k], List.getElem_mem _, by simpa using ht⟩, fun _ => by omega⟩
      · have ht : (!rightB n l[k]) = false := by assumption
        go_roundw
        case rel =>
          refine ⟨k + 1, by omega, by go_num, hbw.trans (hb'.mono hbw.size), ?_⟩
          intro x hx
          rw [take_last hlt, List.mem_append] at hx
          rcases hx with hx | hx
          · exact HQ.out x hx
          · rw [List.mem_singleton.1 hx]; simpa using ht
        case measure => simp [intOf]; omega
    · go_wp2
      go_ret
      refine ⟨hbw, -1, rfl, ?_⟩
      refine ⟨fun h => absurd h (by omega), ?_⟩
      rintro ⟨x, hx, hf⟩
      have := HQ.out x (by rw [List.take_of_length_le (by omega)]; exact hx)
      rw [this] at hf; cases hf

def rightsB (n : Int) (l : List AM) : Bool := l.all fun x => rightB n x

theorem rightsB_iff (n : Int) (l : List AM) : (∃ x, x ∈ l ∧ rightB n x = false) ↔ rightsB n l = false := by
  simp [rightsB]

set_option maxHeartbeats 1000000 in
theorem contains_func (n : Int) (b o : Nat) (hn : 1 ≤ n) (hn' : n ≤ 12) (l : List AM) (a : Option Addr) (cap : Nat) (w : World) (hc : w.cell? ⟨b, o, none⟩ = some (.int .i64 n)) (hb : b < w.heap.size) (hl : Rd w a l)
    (hlen : l.length ≤ 1000000) :
    Calls Try.prog 73 #[.slice a l.length cap, .func (.func 74) #[] #[.pointer (some ⟨b, o, none⟩)]] w (RetB (.bool (!rightsB n l)) w) := by
  go_enter Try.func73, Try.ntmps73
  go_wp2_with (go_at_call 109; refine (index_func n b o hn hn' l a cap _ hc hb hl hlen).mono ?_; rintro e w' ⟨hb', i, rfl, hi⟩; have HI := hid hi; clear hi)
  go_ret
  refine ⟨ret_bool ?_, hb'⟩
  have hi := HI.out
  rw [rightsB_iff] at hi
  cases h : rightsB n l
  · have : 0 ≤ i := hi.2 h
    simpa using this
  · have : ¬ 0 ≤ i := fun h0 => by rw [hi.1 h0] at h; cases h
    simpa using this

/-- The error of lines. -/
def checkN (n : Int) (l : List AM) : Int := if inB n 1 12 then (if 40 < l.length then 3 else if rightsB n l then 0 else 1) else 1

set_option maxHeartbeats 1000000 in
theorem check_any (n : Int) (l : List AM) (a : Option Addr) (cap : Nat) (w : World) (hl : Rd w a l) (hlen : l.length ≤ 9223372036854775807) :
    Calls Try.prog 31 #[.int .i64 n, .slice a l.length cap] w (RetB (.int .i64 (checkN n l)) w) := by
  have HL := hid hl; clear hl
  by_cases h1 : inB n 1 12 = true
  · have hn : 1 ≤ n ∧ n ≤ 12 := by simpa [inB] using h1
    obtain ⟨hn1, hn2⟩ := hn
    by_cases h2 : 40 < l.length
    · go_enter Try.func31, Try.ntmps31
      go_wp2_with (go_at_call 71; refine (within_any _ _ _ _).mono ?_; rintro e w' ⟨rfl, rfl⟩)
      go_ret
      exact ⟨ret_int (by simp [checkN, h1, h2]), (Below.refl _ _).alloc (Nat.le_refl _) _⟩
    · go_enter Try.func31, Try.ntmps31
      go_wp2_with (first | (go_at_call 71; refine (within_any _ _ _ _).mono ?_; rintro e w' ⟨rfl, rfl⟩) | (go_at_call 73; refine (contains_func n w.heap.size 0 hn1 hn2 l a cap _ (cell0_alloc _ _ _) (lt_alloc _ _) (HL.out.below (bnew _ _)) (by omega)).mono ?_; rintro e w' ⟨rfl, hb'⟩))
      all_goals go_ret
      · have ht : (!rightsB n l) = true := by assumption
        exact ⟨ret_int (by simp at ht; simp [checkN, h1, h2, ht]), (bnew _ _).step hb'⟩
      · have ht : (!rightsB n l) = false := by assumption
        exact ⟨ret_int (by simp at ht; simp [checkN, h1, h2, ht]), (bnew _ _).step hb'⟩
  · go_enter Try.func31, Try.ntmps31
    go_wp2_with (go_at_call 71; refine (within_any _ _ _ _).mono ?_; rintro e w' ⟨rfl, rfl⟩)
    go_ret
    exact ⟨ret_int (by simp [checkN, h1]), (Below.refl _ _).alloc (Nat.le_refl _) _⟩

/-- The error of lines, and of a further one. -/
def lineN (n : Int) (l : List AM) (x : AM) : Int := if checkN n l = 0 then (if rightB n x then 0 else 1) else checkN n l

theorem checkN_in {n : Int} {l : List AM} (h : checkN n l = 0) : (1 ≤ n ∧ n ≤ 12) ∧ l.length ≤ 40 ∧ rightsB n l = true := by
  unfold checkN at h
  split at h
  · rename_i h1
    split at h
    · cases h
    · split at h
      · rename_i h3
        exact ⟨by simpa [inB] using h1, by omega, h3⟩
      · cases h
  · cases h

set_option maxHeartbeats 1000000 in
theorem line_any (n : Int) (l : List AM) (A P B Q M : Int) (a : Option Addr) (cap : Nat) (w : World) (hl : Rd w a l) (hlen : l.length ≤ 9223372036854775807) :
    Calls Try.prog 56 #[.int .i64 n, .slice a l.length cap, .agg #[.int .i64 A, .int .i64 P, .int .i64 B, .int .i64 Q, .int .i64 M]] w (RetB (.int .i64 (lineN n l ⟨A, P, B, Q, M⟩)) w) := by
  have HL := hid hl; clear hl
  by_cases h1 : checkN n l = 0
  · obtain ⟨⟨hn1, hn2⟩, _, _⟩ := checkN_in h1
    have H1 := hid h1; clear h1
    go_enter Try.func56, Try.ntmps56
    go_wp2_with (first | (go_at_call 31; refine (check_any n l a cap _ (HL.out.below (bnew _ _)) hlen).mono ?_; rw [H1.out]; rintro e w' ⟨rfl, hb'⟩; obtain ⟨hc', hf'⟩ := bcell hb') | (go_at_call 75; refine (right_any n A P B Q M hn1 hn2 _).mono ?_; rintro e w2 ⟨rfl, hb2⟩))
    · have ht : (!rightB n ⟨A, P, B, Q, M⟩) = true := by assumption
      go_ret
      exact ⟨ret_int (by simp at ht; simp [lineN, H1.out, ht]), ((bnew _ _).step hb').step hb2⟩
    · have ht : (!rightB n ⟨A, P, B, Q, M⟩) = false := by assumption
      go_ret
      exact ⟨ret_int (by simp at ht; simp [lineN, H1.out, ht]), ((bnew _ _).step hb').step hb2⟩
  · have h1' : (checkN n l == 0) = false := by simpa using h1
    go_enter Try.func56, Try.ntmps56
    go_wp2_with (go_at_call 31; refine (check_any n l a cap _ (HL.out.below (bnew _ _)) hlen).mono ?_; rintro e w' ⟨rfl, hb'⟩)
    go_ret
    exact ⟨ret_int (by simp [lineN, h1]), (bnew _ _).step hb'⟩

/-- The error of lines, and of the index of an unknown number. -/
def indexN (n : Int) (l : List AM) (k : Int) : Int := if checkN n l = 0 then (if inB k 0 (n - 1) then 0 else 1) else checkN n l

set_option maxHeartbeats 1000000 in
theorem index_any (n : Int) (l : List AM) (k : Int) (a : Option Addr) (cap : Nat) (w : World) (hl : Rd w a l) (hlen : l.length ≤ 9223372036854775807) :
    Calls Try.prog 62 #[.int .i64 n, .slice a l.length cap, .int .i64 k] w (RetB (.int .i64 (indexN n l k)) w) := by
  have HL := hid hl; clear hl
  by_cases h1 : checkN n l = 0
  · obtain ⟨⟨hn1, hn2⟩, _, _⟩ := checkN_in h1
    have H1 := hid h1; clear h1
    go_enter Try.func62, Try.ntmps62
    go_wp2_with (first | (go_at_call 31; refine (check_any n l a cap _ HL.out hlen).mono ?_; rw [H1.out]; rintro e w' ⟨rfl, hb'⟩) | (go_at_call 71; refine (within_any _ _ _ _).mono ?_; rintro e w2 ⟨rfl, rfl⟩))
    · have ht : (!inB k 0 (n - 1)) = true := by assumption
      go_ret
      exact ⟨ret_int (by simp at ht; simp [indexN, H1.out, ht]), hb'⟩
    · have ht : (!inB k 0 (n - 1)) = false := by assumption
      go_ret
      exact ⟨ret_int (by simp at ht; simp [indexN, H1.out, ht]), hb'⟩
  · have h1' : (checkN n l == 0) = false := by simpa using h1
    go_enter Try.func62, Try.ntmps62
    go_wp2_with (go_at_call 31; refine (check_any n l a cap _ HL.out hlen).mono ?_; rintro e w' ⟨rfl, hb'⟩)
    go_ret
    exact ⟨ret_int (by simp [indexN, h1]), hb'⟩

theorem short_any (l : List AM) (a : Option Addr) (cap : Nat) (w : World) (hlen : l.length ≤ 9223372036854775807) :
    Calls Try.prog 16 #[.slice a l.length cap] w (RetS (.bool (decide (l.length ≤ 60))) w) := by
  go_enter Try.func16, Try.ntmps16
  go_wp2
  go_ret
  exact ⟨ret_bool (by simp; omega), rfl⟩

/-- Whether lines are right. -/
def lawRight (n : Int) (l : List AM) : Bool := decide (l.length ≤ 40 ∧ checkN n l = 0)

set_option maxHeartbeats 1000000 in
theorem lawright_any (n : Int) (l : List AM) (a : Option Addr) (cap : Nat) (w : World) (hl : Rd w a l) (hlen : l.length ≤ 9223372036854775807) :
    Calls Try.prog 22 #[.int .i64 n, .slice a l.length cap] w (RetB (.bool (lawRight n l)) w) := by
  have HL := hid hl; clear hl
  by_cases h40 : l.length ≤ 40
  · go_enter Try.func22, Try.ntmps22
    go_wp2_with (go_at_call 31; refine (check_any n l a cap _ HL.out hlen).mono ?_; rintro e w' ⟨rfl, hb'⟩)
    go_ret
    exact ⟨ret_bool (by by_cases h : checkN n l = 0 <;> simp [lawRight, h40, h]), hb'⟩
  · go_enter Try.func22, Try.ntmps22
    go_wp2
    go_ret
    exact ⟨ret_bool (by simp [lawRight]; omega), Below.refl _ _⟩
end Go.Proofs.Ytnjbahiaelehkaa
