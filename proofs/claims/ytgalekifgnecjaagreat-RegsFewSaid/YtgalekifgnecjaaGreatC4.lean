/- The small functions of package regs. -/
import Derived.Test.YtgalekifgnecjaaGreatC2
import Derived.Test.YtgalekifgnecjaaGreatC1
import Derived.Test.YtgalekifgnecjaaGreatB4
namespace Go.Proofs.YtgalekifgnecjaaGreat
open Go.RowKit Go.Shelf

theorem within_regs (n lo hi : Int) (w : World) : Calls Tryz.prog 43 #[.int .i64 n, .int .i64 lo, .int .i64 hi] w (RetS (.bool (inN n lo hi)) w) := by
  have H : Hid (inN n lo hi = (decide (lo ≤ n) && decide (n ≤ hi))) := hid rfl
  generalize inN n lo hi = r at *
  by_cases h1 : lo ≤ n
  · by_cases h2 : n ≤ hi
    · go_enter Tryz.func43, Tryz.ntmps43
      go_wp2
      go_ret
      exact ⟨ret_bool (by rw [H.out]; simp [h1, h2]), rfl⟩
    · have d2 : decide (n ≤ hi) = false := decide_eq_false h2
      go_enter Tryz.func43, Tryz.ntmps43
      go_wp2
      go_ret
      exact ⟨ret_bool (by rw [H.out]; simp [h1, h2]), rfl⟩
  · have d1 : decide (lo ≤ n) = false := decide_eq_false h1
    go_enter Tryz.func43, Tryz.ntmps43
    go_wp2
    go_ret
    exact ⟨ret_bool (by rw [H.out, d1]; rfl), rfl⟩
theorem ends_any (i : InsN) (w : World) : Calls Tryz.prog 97 #[vI i] w (RetB (.bool (endsB i)) w) := by
  have H : Hid (endsB i = (i.op == 24 || i.op == 26 || i.op == 27 || i.op == 28)) := hid rfl
  generalize endsB i = r at *
  cases h1 : (i.op == 24) with
  | true =>
    go_enter Tryz.func97, Tryz.ntmps97
    go_wp2
    go_ret
    exact ⟨ret_bool (by rw [H.out, h1]; rfl), bnew _ _⟩
  | false =>
    cases h2 : (i.op == 26) with
    | true =>
      go_enter Tryz.func97, Tryz.ntmps97
      go_wp2
      go_ret
      exact ⟨ret_bool (by rw [H.out, h1, h2]; rfl), bnew _ _⟩
    | false =>
      cases h3 : (i.op == 27) with
      | true =>
        go_enter Tryz.func97, Tryz.ntmps97
        go_wp2
        go_ret
        exact ⟨ret_bool (by rw [H.out, h1, h2, h3]; rfl), bnew _ _⟩
      | false =>
        go_enter Tryz.func97, Tryz.ntmps97
        go_wp2
        go_ret
        exact ⟨ret_bool (by rw [H.out, h1, h2, h3]; rfl), bnew _ _⟩
theorem calls_any (i : InsN) (w : World) : Calls Tryz.prog 143 #[vI i] w (RetB (.bool (callB i)) w) := by
  have H : Hid (callB i = (i.op == 20 || i.op == 22)) := hid rfl
  generalize callB i = r at *
  cases h1 : (i.op == 20) with
  | true =>
    go_enter Tryz.func143, Tryz.ntmps143
    go_wp2
    go_ret
    exact ⟨ret_bool (by rw [H.out, h1]; rfl), bnew _ _⟩
  | false =>
    go_enter Tryz.func143, Tryz.ntmps143
    go_wp2
    go_ret
    exact ⟨ret_bool (by rw [H.out, h1]; rfl), bnew _ _⟩
/-- The address of the place that an instruction names. -/
def placeA (op : Int) (b off : Nat) : Option Addr := if op == 24 then some ⟨b, off + 1, none⟩ else if op == 25 || op == 32 then some ⟨b, off + 2, none⟩ else none
theorem place_any (op : Int) (b off : Nat) (w : World) (hc : w.cell? ⟨b, off, none⟩ = some (.int .i64 op)) : Calls Tryz.prog 101 #[.pointer (some ⟨b, off, none⟩)] w (RetS (.pointer (placeA op b off)) w) := by
  have H : Hid (placeA op b off = if op == 24 then some ⟨b, off + 1, none⟩ else if op == 25 || op == 32 then some ⟨b, off + 2, none⟩ else none) := hid rfl
  generalize placeA op b off = r at *
  cases h1 : (op == 24) with
  | true =>
    go_enter Tryz.func101, Tryz.ntmps101
    go_wp2
    go_ret
    exact ⟨ret_val (by rw [H.out, h1]; rfl), rfl⟩
  | false =>
    cases h2 : (op == 25) with
    | true =>
      go_enter Tryz.func101, Tryz.ntmps101
      go_wp2
      go_ret
      exact ⟨ret_val (by rw [H.out, h1, h2]; rfl), rfl⟩
    | false =>
      cases h3 : (op == 32) with
      | true =>
        go_enter Tryz.func101, Tryz.ntmps101
        go_wp2
        go_ret
        exact ⟨ret_val (by rw [H.out, h1, h2, h3]; rfl), rfl⟩
      | false =>
        go_enter Tryz.func101, Tryz.ntmps101
        go_wp2
        go_ret
        exact ⟨ret_val (by rw [H.out, h1, h2, h3]; rfl), rfl⟩
theorem rd_all (w : World) (l : List Int) (T : TypeId) : RdI (w.alloc (.cells (l.map (Value.int .i64)).toArray T)) (some ⟨w.heap.size, 0, none⟩) l := by
  intro k hk
  refine ⟨w.heap.size, 0, rfl, lt_alloc _ _, ?_⟩
  rw [cell_of_row _ _ _ _ _ _ (heapn w _ _ rfl)]
  simp [List.getElem?_eq_getElem hk]
theorem raiseT_in (x : Int) (w : World) : Calls Tryz.prog 141 #[.slice (some ⟨w.heap.size, 0, none⟩) 14 14, .int .i64 x] (w.alloc (.cells #[.int .i64 6, .int .i64 7, .int .i64 8, .int .i64 9, .int .i64 10, .int .i64 17, .int .i64 20, .int .i64 21, .int .i64 22, .int .i64 23, .int .i64 26, .int .i64 27, .int .i64 30, .int .i64 32] 3)) (RetS (.bool (raiseT.contains x)) (w.alloc (.cells #[.int .i64 6, .int .i64 7, .int .i64 8, .int .i64 9, .int .i64 10, .int .i64 17, .int .i64 20, .int .i64 21, .int .i64 22, .int .i64 23, .int .i64 26, .int .i64 27, .int .i64 30, .int .i64 32] 3))) :=
  contains_any raiseT x (some ⟨w.heap.size, 0, none⟩) 14 _ (rd_all w raiseT 3) (by decide)
set_option maxRecDepth 10000 in
theorem raises_any (i : InsN) (w : World) : Calls Tryz.prog 103 #[vI i] w (RetB (.bool (raisesB i)) w) := by
  have hc := raiseT_in i.op (w.alloc (.cells #[.int .i64 i.op, .int .i64 i.a, .int .i64 i.b, .int .i64 i.c] 85))
  rw [World.size_alloc] at hc
  have HC := hid hc
  clear hc
  have H : Hid (raisesB i = raiseT.contains i.op) := hid rfl
  generalize raisesB i = r at *
  rw [← H.out] at HC
  go_enter Tryz.func103, Tryz.ntmps103
  go_wp2_with (go_at_call 141; refine HC.out.mono ?_; rintro e w' ⟨rfl, rfl⟩)
  go_ret
  exact ⟨rfl, (bnew _ _).step (bnew _ _)⟩
theorem risingB_false {l : List InsN} {k : Nat} (h : k < l.length) (hn : l[k].a ≠ (k : Int)) : risingB l = false := by
  unfold risingB
  exact all_false h (by rw [getD_in h]; simpa using hn)
theorem risingB_true {l : List InsN} (h : ∀ k (hk : k < l.length), l[k].a = (k : Int)) : risingB l = true := by
  unfold risingB
  rw [List.all_eq_true]
  intro k hk
  rw [List.mem_range] at hk
  rw [getD_in hk, h k hk]
  simp
set_option maxHeartbeats 1000000 in
theorem rising_any (l : List InsN) (a : Option Addr) (cap : Nat) (w : World) (hl : RdC w a l) (hll : l.length ≤ 1000000) : Calls Tryz.prog 144 #[.slice a l.length cap] w (RetB (.bool (risingB l)) w) := by
  have HL := hid hl; clear hl
  go_enter Tryz.func144, Tryz.ntmps144
  go_wp2
  go_loopg [7] l.length (fun gh s7 wr => ∃ j : Nat, j ≤ l.length ∧ gh = l.length - j ∧ s7 = .int .i64 j ∧ Hid (∀ k (hk : k < l.length), k < j → l[k].a = (k : Int)) ∧ Hid (Below w.heap.size w wr))
  case atStart => exact ⟨0, Nat.zero_le _, rfl, rfl, hid (fun k _ h => absurd h (Nat.not_lt_zero _)), hid (Below.refl _ _)⟩
  case round =>
    obtain ⟨j, hj, rfl, rfl, HQ, HB⟩ := hrel
    by_cases hlj : j < l.length
    · obtain ⟨b2, off, ha, hlt2, h0, h1, h2, h3⟩ := (HL.out.below HB.out) j hlj
      subst ha
      have nj : (j : Int) < (l.length : Int) := by omega
      have HF := hid (risingB_false (l := l) (k := j) hlj)
      have HS : Hid (l[j].a = (j : Int) → ∀ k (hk : k < l.length), k < j + 1 → l[k].a = (k : Int)) := hid (fun e k hk hkj => by
        by_cases h : k < j
        · exact HQ.out k hk h
        · obtain rfl : k = j := by omega
          exact e)
      generalize l[j] = g at *
      cases hg : (g.a != (j : Int)) with
      | true =>
        have HE := hid (HF.out (by simpa using hg))
        go_wp2
        go_ret
        exact ⟨ret_bool HE.out.symm, HB.out.step (bnew _ _)⟩
      | false =>
        have HE := hid (HS.out (by simpa using hg))
        go_wp2
        go_roundg (l.length - (j + 1))
        case measure => omega
        case rel => exact ⟨j + 1, by omega, rfl, by go_num, HE, hid (HB.out.step (bnew _ _))⟩
    · obtain rfl : j = l.length := by omega
      have HE := hid (risingB_true (l := l) (fun k hk => HQ.out k hk hk))
      go_wp2
      go_ret
      exact ⟨ret_bool HE.out.symm, HB.out⟩
set_option maxHeartbeats 1000000 in
theorem g173 (g : GrdN) (n : Int) (p : Nat) (w : World) (hp : w.cell? ⟨p, 0, none⟩ = some (.int .i64 n)) :
    Calls Tryz.prog 173 #[vG g, .pointer (some ⟨p, 0, none⟩)] w (RetB (.bool (guardIn n g)) w) := by
  have H : Hid (guardIn n g = (decide (g.frm ≤ n) && decide (n < g.til))) := hid rfl
  have hp1 := cell_later (bnew w (.cells #[.int .i64 g.frm, .int .i64 g.til, .int .i64 g.at'] 90)) hp
  have HB := hid (bnew w (.cells #[.int .i64 g.frm, .int .i64 g.til, .int .i64 g.at'] 90))
  clear hp
  generalize guardIn n g = r at *
  by_cases h1 : g.frm ≤ n
  · have d1 : decide (g.frm ≤ n) = true := decide_eq_true h1
    by_cases h2 : n < g.til
    · have d2 : decide (n < g.til) = true := decide_eq_true h2
      rw [d1, d2] at H
      go_enter Tryz.func173, Tryz.ntmps173
      go_wp2
      go_ret
      exact ⟨ret_bool (by rw [H.out]; rfl), HB.out⟩
    · have d2 : decide (n < g.til) = false := decide_eq_false h2
      rw [d1, d2] at H
      go_enter Tryz.func173, Tryz.ntmps173
      go_wp2
      go_ret
      exact ⟨ret_bool (by rw [H.out]; rfl), HB.out⟩
  · have d1 : decide (g.frm ≤ n) = false := decide_eq_false h1
    rw [d1] at H
    go_enter Tryz.func173, Tryz.ntmps173
    go_wp2
    go_ret
    exact ⟨ret_bool (by rw [H.out]; rfl), HB.out⟩
theorem enters173 : Enters 173 := enters_of Tryz.func173 (by kernel_rfl) rfl
set_option maxHeartbeats 1000000 in
theorem guardOf_regs (u : UntN) (n : Int) (ca : Option Addr) (cc : Nat) (ga : Option Addr) (gc : Nat) (w : World) (hg : RdD w ga u.guards) (hlg : u.guards.length ≤ 1000000) :
    Calls Tryz.prog 102 #[vU u ca cc ga gc, .int .i64 n] w (RetB (.int .i64 (guardL u n)) w) := by
  have HB := hid ((bnew w (oU u ca cc ga gc)).step (bnew _ (.cells #[.int .i64 n] 3)))
  have hc : ((w.alloc (oU u ca cc ga gc)).alloc (.cells #[.int .i64 n] 3)).cell? ⟨w.heap.size + 1, 0, none⟩ = some (.int .i64 n) := by have := cell0_alloc (w.alloc (oU u ca cc ga gc)) (.int .i64 n) 3; rw [World.size_alloc] at this; exact this
  have HI := hid (indexG 173 enters173 #[.pointer (some ⟨w.heap.size + 1, 0, none⟩)] (guardIn n) u.guards ga gc _ (fun x _ w' hb => g173 x n _ w' (cell_later hb hc)) (hg.below HB.out) (by omega))
  clear hg hc
  go_enter Tryz.func102, Tryz.ntmps102
  go_wp2_with (go_at_call 172; refine HI.out.mono ?_; rintro e w' ⟨rfl, hb⟩; have HB2 := hid (HB.out.step hb); clear hb)
  go_ret
  exact ⟨rfl, HB2.out⟩
end Go.Proofs.YtgalekifgnecjaaGreat
