/- The small functions of package regs. plain of package core. walk of package core: what stands in its loops. -/
import Derived.Test.YtgalekifgnecjaaGreatC2
import Derived.Test.YtgalekifgnecjaaGreatB4
namespace Go.Proofs.YtgalekifgnecjaaGreat
open Go.RowKit

open Go.RowKit Go.Shelf

theorem within_regs (n lo hi : Int) (w : World) : Calls Tryz.prog 43 #[.int .i64 n, .int .i64 lo, .int .i64 hi] w (RetS (.bool (inN n lo hi)) w) := by
  have H : Hid (inN n lo hi = (decide (lo ≤ n) && decide (n ≤ hi))) := hid rfl
  generalize inN n lo hi = r at *
  by_cases h1 : lo ≤ n
  · by_cases h2 : n ≤ hi
    · go_enter Tryz.func43, Tryz.ntmps43
      go_wp2
      go_ret
      exact ⟨ret_bool (by rw [H.out]; simp [h1, h2]), rfl⟩
    · have d2 : decide (n ≤ hi) = false := decide_eq_false h2
      go_enter Tryz.func43, Tryz.ntmps43
      go_wp2
      go_ret
      exact ⟨ret_bool (by rw [H.out]; simp [h1, h2]), rfl⟩
  · have d1 : decide (lo ≤ n) = false := decide_eq_false h1
    go_enter Tryz.func43, Tryz.ntmps43
    go_wp2
    go_ret
    exact ⟨ret_bool (by rw [H.out, d1]; rfl), rfl⟩
theorem ends_any (i : InsN) (w : World) : Calls Tryz.prog 97 #[vI i] w (RetB (.bool (endsB i)) w) := by
  have H : Hid (endsB i = (i.op == 24 || i.op == 26 || i.op == 27 || i.op == 28)) := hid rfl
  generalize endsB i = r at *
  cases h1 : (i.op == 24) with
  | true =>
    go_enter Tryz.func97, Tryz.ntmps97
    go_wp2
    go_ret
    exact ⟨ret_bool (by rw [H.out, h1]; rfl), bnew _ _⟩
  | false =>
    cases h2 : (i.op == 26) with
    | true =>
      go_enter Tryz.func97, Tryz.ntmps97
      go_wp2
      go_ret
      exact ⟨ret_bool (by rw [H.out, h1, h2]; rfl), bnew _ _⟩
    | false =>
      cases h3 : (i.op == 27) with
      | true =>
        go_enter Tryz.func97, Tryz.ntmps97
        go_wp2
        go_ret
        exact ⟨ret_bool (by rw [H.out, h1, h2, h3]; rfl), bnew _ _⟩
      | false =>
        go_enter Tryz.func97, Tryz.ntmps97
        go_wp2
        go_ret
        exact ⟨ret_bool (by rw [H.out, h1, h2, h3]; rfl), bnew _ _⟩
theorem calls_any (i : InsN) (w : World) : Calls Tryz.prog 143 #[vI i] w (RetB (.bool (callB i)) w) := by
  have H : Hid (callB i = (i.op == 20 || i.op == 22)) := hid rfl
  generalize callB i = r at *
  cases h1 : (i.op == 20) with
  | true =>
    go_enter Tryz.func143, Tryz.ntmps143
    go_wp2
    go_ret
    exact ⟨ret_bool (by rw [H.out, h1]; rfl), bnew _ _⟩
  | false =>
    go_enter Tryz.func143, Tryz.ntmps143
    go_wp2
    go_ret
    exact ⟨ret_bool (by rw [H.out, h1]; rfl), bnew _ _⟩
/-- The address of the place that an instruction names. -/
def placeA (op : Int) (b off : Nat) : Option Addr := if op == 24 then some ⟨b, off + 1, none⟩ else if op == 25 || op == 32 then some ⟨b, off + 2, none⟩ else none
theorem place_any (op : Int) (b off : Nat) (w : World) (hc : w.cell? ⟨b, off, none⟩ = some (.int .i64 op)) : Calls Tryz.prog 101 #[.pointer (some ⟨b, off, none⟩)] w (RetS (.pointer (placeA op b off)) w) := by
  have H : Hid (placeA op b off = if op == 24 then some ⟨b, off + 1, none⟩ else if op == 25 || op == 32 then some ⟨b, off + 2, none⟩ else none) := hid rfl
  generalize placeA op b off = r at *
  cases h1 : (op == 24) with
  | true =>
    go_enter Tryz.func101, Tryz.ntmps101
    go_wp2
    go_ret
    exact ⟨ret_val (by rw [H.out, h1]; rfl), rfl⟩
  | false =>
    cases h2 : (op == 25) with
    | true =>
      go_enter Tryz.func101, Tryz.ntmps101
      go_wp2
      go_ret
      exact ⟨ret_val (by rw [H.out, h1, h2]; rfl), rfl⟩
    | false =>
      cases h3 : (op == 32) with
      | true =>
        go_enter Tryz.func101, Tryz.ntmps101
        go_wp2
        go_ret
        exact ⟨ret_val (by rw [H.out, h1, h2, h3]; rfl), rfl⟩
      | false =>
        go_enter Tryz.func101, Tryz.ntmps101
        go_wp2
        go_ret
        exact ⟨ret_val (by rw [H.out, h1, h2, h3]; rfl), rfl⟩
theorem rd_all (w : World) (l : List Int) (T : TypeId) : RdI (w.alloc (.cells (l.map (Value.int .i64)).toArray T)) (some ⟨w.heap.size, 0, none⟩) l := by
  intro k hk
  refine ⟨w.heap.size, 0, rfl, lt_alloc _ _, ?_⟩
  rw [cell_of_row _ _ _ _ _ _ (heapn w _ _ rfl)]
  simp [List.getElem?_eq_getElem hk]
theorem raiseT_in (x : Int) (w : World) : Calls Tryz.prog 141 #[.slice (some ⟨w.heap.size, 0, none⟩) 14 14, .int .i64 x] (w.alloc (.cells #[.int .i64 6, .int .i64 7, .int .i64 8, .int .i64 9, .int .i64 10, .int .i64 17, .int .i64 20, .int .i64 21, .int .i64 22, .int .i64 23, .int .i64 26, .int .i64 27, .int .i64 30, .int .i64 32] 3)) (RetS (.bool (raiseT.contains x)) (w.alloc (.cells #[.int .i64 6, .int .i64 7, .int .i64 8, .int .i64 9, .int .i64 10, .int .i64 17, .int .i64 20, .int .i64 21, .int .i64 22, .int .i64 23, .int .i64 26, .int .i64 27, .int .i64 30, .int .i64 32] 3))) :=
  contains_any raiseT x (some ⟨w.heap.size, 0, none⟩) 14 _ (rd_all w raiseT 3) (by decide)
set_option maxRecDepth 10000 in
theorem raises_any (i : InsN) (w : World) : Calls Tryz.prog 103 #[vI i] w (RetB (.bool (raisesB i)) w) := by
  have hc := raiseT_in i.op (w.alloc (.cells #[.int .i64 i.op, .int .i64 i.a, .int .i64 i.b, .int .i64 i.c] 85))
  rw [World.size_alloc] at hc
  have HC := hid hc
  clear hc
  have H : Hid (raisesB i = raiseT.contains i.op) := hid rfl
  generalize raisesB i = r at *
  rw [← H.out] at HC
  go_enter Tryz.func103, Tryz.ntmps103
  go_wp2_with (go_at_call 141; refine HC.out.mono ?_; rintro e w' ⟨rfl, rfl⟩)
  go_ret
  exact ⟨rfl, (bnew _ _).step (bnew _ _)⟩
theorem risingB_false {l : List InsN} {k : Nat} (h : k < l.length) (hn : l[k].a ≠ (k : Int)) : risingB l = false := by
  unfold risingB
  exact all_false h (by rw [getD_in h]; simpa using hn)
theorem risingB_true {l : List InsN} (h : ∀ k (hk : k < l.length), l[k].a = (k : Int)) : risingB l = true := by
  unfold risingB
  rw [List.all_eq_true]
  intro k hk
  rw [List.mem_range] at hk
  rw [getD_in hk, h k hk]
  simp
set_option maxHeartbeats 1000000 in
theorem rising_any (l : List InsN) (a : Option Addr) (cap : Nat) (w : World) (hl : RdC w a l) (hll : l.length ≤ 1000000) : Calls Tryz.prog 144 #[.slice a l.length cap] w (RetB (.bool (risingB l)) w) := by
  have HL := hid hl; clear hl
  go_enter Tryz.func144, Tryz.ntmps144
  go_wp2
  go_loopg [7] l.length (fun gh s7 wr => ∃ j : Nat, j ≤ l.length ∧ gh = l.length - j ∧ s7 = .int .i64 j ∧ Hid (∀ k (hk : k < l.length), k < j → l[k].a = (k : Int)) ∧ Hid (Below w.heap.size w wr))
  case atStart => exact ⟨0, Nat.zero_le _, rfl, rfl, hid (fun k _ h => absurd h (Nat.not_lt_zero _)), hid (Below.refl _ _)⟩
  case round =>
    obtain ⟨j, hj, rfl, rfl, HQ, HB⟩ := hrel
    by_cases hlj : j < l.length
    · obtain ⟨b2, off, ha, hlt2, h0, h1, h2, h3⟩ := (HL.out.below HB.out) j hlj
      subst ha
      have nj : (j : Int) < (l.length : Int) := by omega
      have HF := hid (risingB_false (l := l) (k := j) hlj)
      have HS : Hid (l[j].a = (j : Int) → ∀ k (hk : k < l.length), k < j + 1 → l[k].a = (k : Int)) := hid (fun e k hk hkj => by
        by_cases h : k < j
        · exact HQ.out k hk h
        · obtain rfl : k = j := by omega
          exact e)
      generalize l[j] = g at *
      cases hg : (g.a != (j : Int)) with
      | true =>
        have HE := hid (HF.out (by simpa using hg))
        go_wp2
        go_ret
        exact ⟨ret_bool HE.out.symm, HB.out.step (bnew _ _)⟩
      | false =>
        have HE := hid (HS.out (by simpa using hg))
        go_wp2
        go_roundg (l.length - (j + 1))
        case measure => omega
        case rel => exact ⟨j + 1, by omega, rfl, by go_num, HE, hid (HB.out.step (bnew _ _))⟩
    · obtain rfl : j = l.length := by omega
      have HE := hid (risingB_true (l := l) (fun k hk => HQ.out k hk hk))
      go_wp2
      go_ret
      exact ⟨ret_bool HE.out.symm, HB.out⟩
set_option maxHeartbeats 1000000 in
theorem g173 (g : GrdN) (n : Int) (p : Nat) (w : World) (hp : w.cell? ⟨p, 0, none⟩ = some (.int .i64 n)) :
    Calls Tryz.prog 173 #[vG g, .pointer (some ⟨p, 0, none⟩)] w (RetB (.bool (guardIn n g)) w) := by
  have H : Hid (guardIn n g = (decide (g.frm ≤ n) && decide (n < g.til))) := hid rfl
  have hp1 := cell_later (bnew w (.cells #[.int .i64 g.frm, .int .i64 g.til, .int .i64 g.at'] 90)) hp
  have HB := hid (bnew w (.cells #[.int .i64 g.frm, .int .i64 g.til, .int .i64 g.at'] 90))
  clear hp
  generalize guardIn n g = r at *
  by_cases h1 : g.frm ≤ n
  · have d1 : decide (g.frm ≤ n) = true := decide_eq_true h1
    by_cases h2 : n < g.til
    · have d2 : decide (n < g.til) = true := decide_eq_true h2
      rw [d1, d2] at H
      go_enter Tryz.func173, Tryz.ntmps173
      go_wp2
      go_ret
      exact ⟨ret_bool (by rw [H.out]; rfl), HB.out⟩
    · have d2 : decide (n < g.til) = false := decide_eq_false h2
      rw [d1, d2] at H
      go_enter Tryz.func173, Tryz.ntmps173
      go_wp2
      go_ret
      exact ⟨ret_bool (by rw [H.out]; rfl), HB.out⟩
  · have d1 : decide (g.frm ≤ n) = false := decide_eq_false h1
    rw [d1] at H
    go_enter Tryz.func173, Tryz.ntmps173
    go_wp2
    go_ret
    exact ⟨ret_bool (by rw [H.out]; rfl), HB.out⟩
theorem enters173 : Enters 173 := enters_of Tryz.func173 (by kernel_rfl) rfl
set_option maxHeartbeats 1000000 in
theorem guardOf_regs (u : UntN) (n : Int) (ca : Option Addr) (cc : Nat) (ga : Option Addr) (gc : Nat) (w : World) (hg : RdD w ga u.guards) (hlg : u.guards.length ≤ 1000000) :
    Calls Tryz.prog 102 #[vU u ca cc ga gc, .int .i64 n] w (RetB (.int .i64 (guardL u n)) w) := by
  have HB := hid ((bnew w (oU u ca cc ga gc)).step (bnew _ (.cells #[.int .i64 n] 3)))
  have hc : ((w.alloc (oU u ca cc ga gc)).alloc (.cells #[.int .i64 n] 3)).cell? ⟨w.heap.size + 1, 0, none⟩ = some (.int .i64 n) := by have := cell0_alloc (w.alloc (oU u ca cc ga gc)) (.int .i64 n) 3; rw [World.size_alloc] at this; exact this
  have HI := hid (indexG 173 enters173 #[.pointer (some ⟨w.heap.size + 1, 0, none⟩)] (guardIn n) u.guards ga gc _ (fun x _ w' hb => g173 x n _ w' (cell_later hb hc)) (hg.below HB.out) (by omega))
  clear hg hc
  go_enter Tryz.func102, Tryz.ntmps102
  go_wp2_with (go_at_call 172; refine HI.out.mono ?_; rintro e w' ⟨rfl, hb⟩; have HB2 := hid (HB.out.step hb); clear hb)
  go_ret
  exact ⟨rfl, HB2.out⟩


theorem k213 (x n : Int) (p : Nat) (w : World) (hp : w.cell? ⟨p, 0, none⟩ = some (.int .i64 n)) (hn : 0 ≤ n ∧ n ≤ 1000000) :
    Calls Tryz.prog 213 #[.int .i64 x, .pointer (some ⟨p, 0, none⟩)] w (RetB (.bool (!inN x 0 (n - 1))) w) := by
  have HW := hid (fun w => within_any x 0 (n - 1) w)
  generalize inN x 0 (n - 1) = r at *
  obtain ⟨h1, h2⟩ := hn
  go_enter Tryz.func213, Tryz.ntmps213
  go_wp2_with (go_at_call 91; refine (HW.out _).mono ?_; rintro e w' ⟨rfl, rfl⟩)
  go_ret
  exact ⟨rfl, Below.refl _ _⟩
theorem enters213 : Enters 213 := enters_of Tryz.func213 (by kernel_rfl) rfl
theorem k215 (g : GrdN) (n : Nat) (p : Nat) (w : World) (hp : w.cell? ⟨p, 0, none⟩ = some (.int .i64 n)) (hn : n ≤ 1000000) :
    Calls Tryz.prog 215 #[vG g, .pointer (some ⟨p, 0, none⟩)] w (RetB (.bool (!plainGrd n g)) w) := by
  have HW := hid (fun w => within_any g.at' 0 ((n : Int) - 1) w)
  have H : Hid (plainGrd n g = (decide (0 ≤ g.frm) && decide (g.frm < g.til) && decide (g.til ≤ n) && inN g.at' 0 ((n : Int) - 1))) := hid rfl
  have hp1 := cell_later (bnew w (.cells #[.int .i64 g.frm, .int .i64 g.til, .int .i64 g.at'] 90)) hp
  have HB := hid (bnew w (.cells #[.int .i64 g.frm, .int .i64 g.til, .int .i64 g.at'] 90))
  clear hp
  generalize inN g.at' 0 ((n : Int) - 1) = q at *
  generalize plainGrd n g = r at *
  have hn0 : (0 : Int) ≤ (n : Int) := by omega
  have hn1 : (n : Int) ≤ 1000000 := by omega
  by_cases h1 : 0 ≤ g.frm
  · have d1 : decide (g.frm < 0) = false := decide_eq_false (by omega)
    by_cases h2 : g.frm < g.til
    · have d2 : decide (g.til ≤ g.frm) = false := decide_eq_false (by omega)
      by_cases h3 : g.til ≤ n
      · have d3 : decide ((n : Int) < g.til) = false := decide_eq_false (by omega)
        replace H := hid (H.out.trans (by rw [decide_eq_true h1, decide_eq_true h2, decide_eq_true h3]; rfl : _ = q))
        clear h1 h2 h3
        go_enter Tryz.func215, Tryz.ntmps215
        go_wp2_with (go_at_call 91; refine (HW.out _).mono ?_; rintro e w' ⟨rfl, rfl⟩)
        go_ret
        exact ⟨ret_bool (by rw [H.out]), HB.out⟩
      · have d3 : decide ((n : Int) < g.til) = true := decide_eq_true (by omega)
        replace H := hid (H.out.trans (by rw [decide_eq_true h1, decide_eq_true h2, decide_eq_false h3]; rfl : _ = false))
        clear h1 h2 h3
        go_enter Tryz.func215, Tryz.ntmps215
        go_wp2
        go_ret
        exact ⟨ret_bool (by rw [H.out]; rfl), HB.out⟩
    · have d2 : decide (g.til ≤ g.frm) = true := decide_eq_true (by omega)
      replace H := hid (H.out.trans (by rw [decide_eq_true h1, decide_eq_false h2]; rfl : _ = false))
      clear h1 h2
      go_enter Tryz.func215, Tryz.ntmps215
      go_wp2
      go_ret
      exact ⟨ret_bool (by rw [H.out]; rfl), HB.out⟩
  · have d1 : decide (g.frm < 0) = true := decide_eq_true (by omega)
    replace H := hid (H.out.trans (by rw [decide_eq_false h1]; rfl : _ = false))
    clear h1
    go_enter Tryz.func215, Tryz.ntmps215
    go_wp2
    go_ret
    exact ⟨ret_bool (by rw [H.out]; rfl), HB.out⟩
theorem enters215 : Enters 215 := enters_of Tryz.func215 (by kernel_rfl) rfl
def plainHd (u : UntN) : Bool := inN u.code.length 1 600 && decide (u.guards.length ≤ 40) && inN u.slots 0 200 && inN u.frame 0 200
theorem plainB_eq (u : UntN) : plainB u = (plainHd u && u.code.all (plainIns u.code.length) && u.guards.all (plainGrd u.code.length)) := rfl
theorem code_bad {u : UntN} {j : Nat} (h : j < u.code.length) (hb : plainIns u.code.length u.code[j] = false) : plainB u = false := by
  rw [plainB_eq, List.all_eq_false.2 ⟨_, List.getElem_mem h, by simp [hb]⟩]
  simp
set_option maxRecDepth 100000 in
set_option maxHeartbeats 4000000 in
theorem plain_yes (u : UntN) (ca : Option Addr) (cc : Nat) (ga : Option Addr) (gc : Nat) (w : World) (hm : UnM w u ca cc ga gc) (h1 : inN u.code.length 1 600 = true) (h2 : u.guards.length ≤ 40) (h3 : inN u.slots 0 200 = true) (h4 : inN u.frame 0 200 = true) :
    Calls Tryz.prog 174 #[vU u ca cc ga gc] w (RetB (.bool (plainB u)) w) := by
  have HM := hid hm; clear hm
  have hlen : 1 ≤ u.code.length ∧ u.code.length ≤ 600 := by unfold inN at h1; simp at h1; omega
  have hhd : plainHd u = true := by unfold plainHd; rw [h1, h3, h4, decide_eq_true h2]; rfl
  have HP : Hid (plainB u = (u.code.all (plainIns u.code.length) && u.guards.all (plainGrd u.code.length))) := hid (by rw [plainB_eq, hhd]; rfl)
  clear hhd
  have HW1 := hid (fun w => within_any u.code.length 1 600 w)
  have HW2 := hid (fun w => within_any u.slots 0 200 w)
  have HW3 := hid (fun w => within_any u.frame 0 200 w)
  have HBAD := hid (fun j h hb => code_bad (u := u) (j := j) h hb)
  rw [h1] at HW1
  rw [h3] at HW2
  rw [h4] at HW3
  clear h1 h3 h4
  obtain ⟨hl1, hl2⟩ := hlen
  have ng : ¬ (40 : Int) < (u.guards.length : Int) := by omega
  have d40 : decide ((40 : Int) < (u.guards.length : Int)) = false := decide_eq_false ng
  clear ng
  have HX1 := hid (keepBox (bnew _ (.cells #[.int .i64 u.code.length] 3)) (heapn w (oU u ca cc ga gc) _ rfl))
  have HX2 := hid (heapn (w.alloc (oU u ca cc ga gc)) (.cells #[.int .i64 u.code.length] 3) _ rfl)
  rw [World.size_alloc] at HX2
  have HB := hid ((bnew w (oU u ca cc ga gc)).step (bnew _ (.cells #[.int .i64 u.code.length] 3)))
  go_enter Tryz.func174, Tryz.ntmps174
  go_wp2_with (first
    | (go_at_call 91; (with_reducible refine (HW1.out _).mono ?_); rintro e w' ⟨rfl, rfl⟩)
    | (go_at_call 91; (with_reducible refine (HW2.out _).mono ?_); rintro e w' ⟨rfl, rfl⟩)
    | (go_at_call 91; (with_reducible refine (HW3.out _).mono ?_); rintro e w' ⟨rfl, rfl⟩))
  obtain ⟨w2, hw2⟩ : ∃ w2, w2 = (w.alloc (oU u ca cc ga gc)).alloc (.cells #[.int .i64 u.code.length] 3) := ⟨_, rfl⟩
  rw [← hw2] at HX1 HX2 HB
  rw [← hw2]
  clear hw2
  go_loopg [35] u.code.length (fun gh s35 wr => ∃ j : Nat, j ≤ u.code.length ∧ gh = u.code.length - j ∧ s35 = .int .i64 j ∧ Hid (∀ k (hk : k < u.code.length), k < j → plainIns u.code.length u.code[k] = true) ∧ Hid (Below w2.heap.size w2 wr))
  case atStart => exact ⟨0, Nat.zero_le _, rfl, rfl, hid (fun k _ h => absurd h (Nat.not_lt_zero _)), hid (Below.refl _ _)⟩
  case round =>
    obtain ⟨j, hj, rfl, rfl, HQ, HK⟩ := hrel
    by_cases hlj : j < u.code.length
    · obtain ⟨b2, off, ha, hlt2, c0, c1, c2, c3⟩ := (HM.out.rc.below (HB.out.step HK.out)) j hlj
      subst ha
      have nj : (j : Int) < (u.code.length : Int) := by omega
      have HF := hid (HBAD.out j hlj)
      have HS : Hid (plainIns u.code.length u.code[j] = true → ∀ k (hk : k < u.code.length), k < j + 1 → plainIns u.code.length u.code[k] = true) := hid (fun e k hk hkj => by
        by_cases h : k < j
        · exact HQ.out k hk h
        · obtain rfl : k = j := by omega
          exact e)
      obtain ⟨k0, k1, k2, k3, k4, k5, k6⟩ := box7 (keepBox HK.out HX1.out)
      have kn := (cell_of_row _ _ 0 _ _ _ (keepBox HK.out HX2.out)).trans rfl
      generalize hi : u.code[j] = i at *
      have HFO := hid (fun w => formOf_any i.op w)
      have HPL := hid (fun w => places_any i w)
      have HD : Hid (plainIns u.code.length i = (opOk i.op && (placesL i).all fun p => inN p 0 ((u.code.length : Int) - 1))) := hid rfl
      have HLP : Hid ((placesL i).length ≤ 3) := hid (placesU_length (formL i.op) i 3)
      clear hi
      generalize formL i.op = f at *
      cases hok : opOk i.op with
      | false =>
        rw [hok] at HFO HD
        have HE := hid (HF.out (HD.out.trans rfl))
        clear hok
        go_wp2_with (go_at_call 139; refine (HFO.out _).mono ?_; rintro e w3 ⟨rfl, hb⟩; have HB3 := hid (HB.out.step (HK.out.step ((bnew _ _).step (hb.step (bnew w3 (.cells (cF f) 186)))))); clear hb)
        go_ret
        exact ⟨ret_bool HE.out.symm, HB3.out⟩
      | true =>
        rw [hok] at HFO HD
        clear hok
        replace HD := hid (HD.out.trans (Bool.true_and _))
        have HY := hid (heapn wr (.cells #[.int .i64 i.op, .int .i64 i.a, .int .i64 i.b, .int .i64 i.c] 85) _ rfl)
        generalize placesL i = pl at *
        obtain ⟨qb, hqb⟩ : ∃ qb, qb = pl.any fun x => !inN x 0 ((u.code.length : Int) - 1) := ⟨_, rfl⟩
        replace HD := hid (HD.out.trans (by rw [hqb, List.all_eq_not_any_not] : _ = !qb))
        have HQB := hid hqb
        clear hqb
        cases qb
        all_goals
          go_wp2_with (first
            | (go_at_call 139; refine (HFO.out _).mono ?_; rintro e w3 ⟨rfl, hb⟩; have HB3 := hid (HK.out.step ((bnew wr (.cells #[.int .i64 i.op, .int .i64 i.a, .int .i64 i.b, .int .i64 i.c] 85)).step (hb.step (bnew w3 (.cells (cF f) 186))))); obtain ⟨y0, y1, y2, y3⟩ := box4 (keepBox (bnew w3 (.cells (cF f) 186)) (keepBox hb HY.out)); clear hb)
            | (go_at_call 209; refine (HPL.out _).mono ?_; rintro e w4 ⟨hb, v, rfl, ho⟩; obtain ⟨pa, pc, rfl, hrp⟩ := ho.rd; have HB4 := hid (HB3.out.step hb); have HS4 := hid (someI 213 enters213 #[.pointer (some ⟨w.heap.size + 1, 0, none⟩)] (fun x => !inN x 0 ((u.code.length : Int) - 1)) pl pa pc w4 (fun x _ w' hb' => k213 x _ _ w' (cell_later hb' ((cell_of_row _ _ 0 _ _ _ (keepBox HB4.out HX2.out)).trans rfl)) (by omega)) hrp (by have := HLP.out; omega)); rw [← HQB.out] at HS4; clear hb ho hrp)
            | (go_at_call 99; refine HS4.out.mono ?_; rintro e w5 ⟨rfl, hb⟩; have HB5 := hid (HB4.out.step hb); clear hb))
        · go_roundg (u.code.length - (j + 1))
          case measure => omega
          case rel => exact ⟨j + 1, by omega, rfl, by go_num, hid (HS.out HD.out), HB5⟩
        · have HE := hid (HF.out HD.out)
          go_ret
          exact ⟨ret_bool HE.out.symm, HB.out.step HB5.out⟩
    · obtain rfl : j = u.code.length := by omega
      have HA : Hid (plainB u = !(u.guards.any fun g => !plainGrd u.code.length g)) := hid (by
        rw [HP.out, List.all_eq_true.2 (fun x hx => by obtain ⟨k, hk, rfl⟩ := List.getElem_of_mem hx; exact HQ.out k hk hk), Bool.true_and, List.all_eq_not_any_not])
      obtain ⟨k0, k1, k2, k3, k4, k5, k6⟩ := box7 (keepBox HK.out HX1.out)
      have kn := (cell_of_row _ _ 0 _ _ _ (keepBox HK.out HX2.out)).trans rfl
      have HS4 := hid (someG 215 enters215 #[.pointer (some ⟨w.heap.size + 1, 0, none⟩)] (fun g => !plainGrd u.code.length g) u.guards ga gc wr (fun x _ w' hb' => k215 x _ _ w' (cell_later hb' kn) (by omega)) (HM.out.rg.below (HB.out.step HK.out)) (by omega))
      generalize (u.guards.any fun g => !plainGrd u.code.length g) = qb at *
      go_wp2_with (go_at_call 214; refine HS4.out.mono ?_; rintro e w5 ⟨rfl, hb⟩; have HB5 := hid (HK.out.step hb); clear hb)
      go_ret
      exact ⟨ret_bool HA.out.symm, HB.out.step HB5.out⟩
set_option maxRecDepth 100000 in
set_option maxHeartbeats 4000000 in
theorem plain_no (u : UntN) (ca : Option Addr) (cc : Nat) (ga : Option Addr) (gc : Nat) (w : World) (hlc : u.code.length ≤ 1000000) (hlg : u.guards.length ≤ 1000000) (hh : plainHd u = false) :
    Calls Tryz.prog 174 #[vU u ca cc ga gc] w (RetB (.bool (plainB u)) w) := by
  have HP : Hid (plainB u = false) := hid (by rw [plainB_eq, hh]; rfl)
  have H : Hid ((inN u.code.length 1 600 && decide (u.guards.length ≤ 40) && inN u.slots 0 200 && inN u.frame 0 200) = false) := hid hh
  clear hh
  have HB := hid ((bnew w (oU u ca cc ga gc)).step (bnew _ (.cells #[.int .i64 u.code.length] 3)))
  have HW1 := hid (fun w => within_any u.code.length 1 600 w)
  have HW2 := hid (fun w => within_any u.slots 0 200 w)
  have HW3 := hid (fun w => within_any u.frame 0 200 w)
  have ng : (u.guards.length : Int) ≤ 1000000 := by omega
  have nc : (u.code.length : Int) ≤ 1000000 := by omega
  obtain ⟨b1, hb1⟩ : ∃ b, b = inN u.code.length 1 600 := ⟨_, rfl⟩
  obtain ⟨b2, hb2⟩ : ∃ b, b = inN u.slots 0 200 := ⟨_, rfl⟩
  obtain ⟨b3, hb3⟩ : ∃ b, b = inN u.frame 0 200 := ⟨_, rfl⟩
  rw [← hb1] at HW1 H
  rw [← hb2] at HW2 H
  rw [← hb3] at HW3 H
  clear hb1 hb2 hb3
  generalize plainB u = r at *
  cases b1 with
  | false =>
    go_enter Tryz.func174, Tryz.ntmps174
    go_wp2_with (go_at_call 91; (with_reducible refine (HW1.out _).mono ?_); rintro e w' ⟨rfl, rfl⟩)
    go_ret
    exact ⟨ret_bool HP.out.symm, HB.out⟩
  | true =>
    by_cases h40 : u.guards.length ≤ 40
    · have d40 : decide ((40 : Int) < (u.guards.length : Int)) = false := decide_eq_false (by omega)
      rw [decide_eq_true h40] at H
      clear h40
      cases b2 with
      | false =>
        go_enter Tryz.func174, Tryz.ntmps174
        go_wp2_with (first
          | (go_at_call 91; (with_reducible refine (HW1.out _).mono ?_); rintro e w' ⟨rfl, rfl⟩)
          | (go_at_call 91; (with_reducible refine (HW2.out _).mono ?_); rintro e w' ⟨rfl, rfl⟩))
        go_ret
        exact ⟨ret_bool HP.out.symm, HB.out⟩
      | true =>
        cases b3 with
        | false =>
          go_enter Tryz.func174, Tryz.ntmps174
          go_wp2_with (first
            | (go_at_call 91; (with_reducible refine (HW1.out _).mono ?_); rintro e w' ⟨rfl, rfl⟩)
            | (go_at_call 91; (with_reducible refine (HW2.out _).mono ?_); rintro e w' ⟨rfl, rfl⟩)
            | (go_at_call 91; (with_reducible refine (HW3.out _).mono ?_); rintro e w' ⟨rfl, rfl⟩))
          go_ret
          exact ⟨ret_bool HP.out.symm, HB.out⟩
        | true => exact absurd H.out (by simp)
    · have d40 : decide ((40 : Int) < (u.guards.length : Int)) = true := decide_eq_true (by omega)
      clear h40
      go_enter Tryz.func174, Tryz.ntmps174
      go_wp2_with (go_at_call 91; (with_reducible refine (HW1.out _).mono ?_); rintro e w' ⟨rfl, rfl⟩)
      go_ret
      exact ⟨ret_bool HP.out.symm, HB.out⟩
theorem plain_any (u : UntN) (ca : Option Addr) (cc : Nat) (ga : Option Addr) (gc : Nat) (w : World) (hm : UnM w u ca cc ga gc) (hlc : u.code.length ≤ 1000000) (hlg : u.guards.length ≤ 1000000) :
    Calls Tryz.prog 174 #[vU u ca cc ga gc] w (RetB (.bool (plainB u)) w) := by
  cases hh : plainHd u with
  | false => exact plain_no u ca cc ga gc w hlc hlg hh
  | true =>
    unfold plainHd at hh
    simp only [Bool.and_eq_true, decide_eq_true_eq] at hh
    exact plain_yes u ca cc ga gc w hm hh.1.1.1 hh.1.1.2 hh.1.2 hh.2

attribute [local go_sem] Oper.semAt_some

/-- Block g holds the truths L from its head on. -/
def BT (w : World) (g : Nat) (L : List Bool) : Prop := ∃ cur, w.heap[g]? = some (.cells cur 4 (0, 0)) ∧ ∀ i (h : i < L.length), cur[i]? = some (.bool L[i])
theorem BT.at {w : World} {g : Nat} {L : List Bool} (h : BT w g L) {i : Nat} (hi : i < L.length) : w.cell? ⟨g, i, none⟩ = some (.bool L[i]) := by
  obtain ⟨cur, hh, hc⟩ := h
  rw [cell_of_row _ _ _ _ _ _ hh]
  exact hc i hi
theorem BT.frozen {w : World} {g : Nat} {L : List Bool} (h : BT w g L) (o : Nat) : w.frozen? ⟨g, o, none⟩ = false := by
  obtain ⟨cur, hh, _⟩ := h
  simp [World.frozen?, hh]
theorem BT.lt {w : World} {g : Nat} {L : List Bool} (h : BT w g L) : g < w.heap.size := by
  obtain ⟨cur, hh, _⟩ := h
  exact lt_of_heap hh
theorem BT.keep {w w' : World} {g : Nat} {L : List Bool} (h : BT w g L) (e : w'.heap[g]? = w.heap[g]?) : BT w' g L := by
  obtain ⟨cur, hh, hc⟩ := h
  exact ⟨cur, by rw [e]; exact hh, hc⟩
theorem BT.below {w w' : World} {g : Nat} {L : List Bool} (h : BT w g L) (hb : Below w.heap.size w w') : BT w' g L := h.keep (hb.block g h.lt)
theorem BT.set {w : World} {g : Nat} {L : List Bool} (h : BT w g L) {i : Nat} (hi : i < L.length) (v : Bool) : BT (w.setCell ⟨g, i, none⟩ (.bool v)) g (L.set i v) := by
  obtain ⟨cur, hh, hc⟩ := h
  have hsz : i < cur.size := (Array.getElem?_eq_some_iff.1 (hc i hi)).1
  refine ⟨_, heap_setCell_same _ _ _ _ _ _ hh, fun k hk => ?_⟩
  have hk' : k < L.length := by simpa using hk
  rw [Array.getElem?_setIfInBounds, List.getElem_set]
  by_cases e : i = k
  · subst e
    simp [hsz]
  · rw [if_neg e, if_neg e]
    exact hc k hk'
def offs (d : List Bool) : Nat := d.countP (!·)
theorem offs_set {d : List Bool} {k : Nat} (hk : k < d.length) (h : d[k] = false) : offs (d.set k true) + 1 = offs d := by
  unfold offs
  rw [List.countP_set hk]
  have h3 : 0 < d.countP (!·) := List.countP_pos_iff.2 ⟨_, List.getElem_mem hk, by rw [h]; rfl⟩
  simp only [h]
  simp
  omega
theorem boxF {W : World} {b : Nat} {c : Array Value} {T : TypeId} (o : Nat) (h : W.heap[b]? = some (.cells c T (0, 0))) : W.frozen? ⟨b, o, none⟩ = false := by simp [World.frozen?, h]
theorem QB.init {w : World} {g off cap : Nat} {x : Int} {l : List Int} (h : QB w g off cap (l ++ [x])) : QB w g off cap l := by
  obtain ⟨cur, hg, h1, h2, h3, hx⟩ := h
  rw [List.length_append, List.length_singleton] at h1
  refine ⟨cur, hg, by omega, h2, h3, fun i hi => ?_⟩
  have := hx i (by simp; omega)
  rw [this, List.getElem_append_left hi]
theorem grown_cells {W W' : World} {row : Option Nat} (hg : W.grownBy W' row) (hr : ∀ r, row = some r → ∃ o : Obj, W.heap[r]? = some o ∧ o.isCells = false) {k : Nat} {o : Obj} (h : W.heap[k]? = some o) (ho : o.isCells = true) : W'.heap[k]? = W.heap[k]? := by
  refine hg.block k (Array.getElem?_eq_some_iff.1 h).1 (fun e => ?_)
  obtain ⟨o', h1, h2⟩ := hr k e.symm
  rw [h] at h1
  cases h1
  rw [ho] at h2
  cases h2
theorem KeepM.grown {S : Nat → Prop} {g : Nat} {W0 W W' : World} {row : Option Nat} (h : KeepM (MiO S g) (WFO S g) W0 W) (hg : W.grownBy W' row) (hr : ∀ r, row = some r → ∃ o : Obj, W.heap[r]? = some o ∧ o.isCells = false) : KeepM (MiO S g) (WFO S g) W0 W' := by
  obtain ⟨v, hv⟩ := h.wf.cell
  have hb := block_lt_of_cell hv
  have hc : W.heap[g].isCells = true := by
    unfold World.cell? at hv
    rw [show (⟨g, 0, none⟩ : Addr).block = g from rfl, Array.getElem?_eq_getElem hb] at hv
    cases ho : W.heap[g] <;> simp [ho, Obj.isCells] at hv ⊢
  have e : W'.cell? ⟨g, 0, none⟩ = W.cell? ⟨g, 0, none⟩ := World.cell?_of_block (grown_cells hg hr (Array.getElem?_eq_getElem hb) hc)
  have wf : WFO S g W' := ⟨fun k hk => Nat.lt_of_lt_of_le (h.wf.own k hk) hg.size, ⟨v, e.trans hv⟩, fun b off n c h' => Nat.lt_of_lt_of_le (h.wf.back b off n c (e.symm.trans h')) hg.size⟩
  refine ⟨wf, hg.os.trans h.os, hg.tape.trans h.tape, hg.output.trans h.output, Nat.le_trans h.size hg.size, fun k o m hk ho => ?_⟩
  obtain ⟨h1, h2⟩ := h.same k o m hk ho
  exact ⟨(grown_cells hg hr h1 ho).trans h1, h2.1, h2.2.1, fun b off n c h' => h2.2.2 b off n c (e.symm.trans h')⟩
theorem below_grownF {B : Nat} {w W W' : World} {row : Option Nat} (h : Below B w W) (hg : W.grownBy W' row) (hB : B ≤ W.heap.size) (hr : ∀ r, row = some r → B ≤ r) : Below B w W' :=
  h.trans ⟨hg.os, hg.tape, hg.output, hg.size, fun k hk => hg.block k (by omega) (fun e => by have := hr k e.symm; omega)⟩
theorem low_grown {W0 W W' : World} {row : Option Nat} (h : ∀ (k : Nat) (o : Obj), k < W0.heap.size → W0.heap[k]? = some o → o.isCells = false → W.heap[k]? = some o) (hg : W.grownBy W' row) (hr : ∀ r, row = some r → W0.heap.size ≤ r) :
    ∀ (k : Nat) (o : Obj), k < W0.heap.size → W0.heap[k]? = some o → o.isCells = false → W'.heap[k]? = some o := by
  intro k o hk h1 h2
  have h3 := h k o hk h1 h2
  exact (hg.block k (Array.getElem?_eq_some_iff.1 h3).1 (fun e => by have := hr k e.symm; omega)).trans h3
/-- What stands at the head of walk's loop. -/
structure RwI (u : UntN) (ca : Option Addr) (cc : Nat) (ga : Option Addr) (gc : Nat) (w : World) (gO gX gB : Nat) (Ds : List Nat) (d : List Bool) (op : List Int) (g off cap : Nat) (wr : World) : Prop where
  hb : Below w.heap.size w wr
  x1 : wr.heap[w.heap.size]? = some (oU u ca cc ga gc)
  x2 : wr.heap[w.heap.size + 1]? = some (.cells #[.func (.func 200) #[] #[]] 86)
  x3 : wr.heap[w.heap.size + 1 + 1]? = some (.cells #[.slice none 0 0] 137)
  x4 : wr.heap[gX]? = some (.cells #[.slice (some ⟨gO, 0, none⟩) u.code.length u.code.length] 137)
  bi : BT wr gO d
  x5 : wr.heap[gB]? = some (.cells #[.slice (some ⟨g, off, none⟩) op.length cap] 28)
  qb : QB wr g off cap op
  o1 : w.heap.size + 1 + 1 < gO
  o2 : gO < gX
  o3 : gX < g
  o4 : gX < gB
  ds : ∀ D, D ∈ Ds → w.heap.size ≤ D ∧ wr.heap[D]? = some (.deferred (some []))
  nd : Ds.Nodup
  len : d.length = u.code.length
  opn : ∀ x, x ∈ op → 0 ≤ x ∧ x < u.code.length
  cnt : offs d + op.length + Ds.length = u.code.length
/-- What stands between two rounds of walk's inner loop. -/
structure RwJ (u : UntN) (w : World) (gO gX gB : Nat) (d : List Bool) (op : List Int) (W0 : World) (d' : List Bool) (op' : List Int) (g off cap : Nat) (W : World) : Prop where
  len : d'.length = u.code.length
  opn : ∀ x, x ∈ op' → 0 ≤ x ∧ x < u.code.length
  cnt : offs d' + op'.length = offs d + op.length
  bi : BT W gO d'
  x5 : W.heap[gB]? = some (.cells #[.slice (some ⟨g, off, none⟩) op'.length cap] 28 (0, 0))
  qb : QB W g off cap op'
  o3 : gX < g
  hk : KeepM (MiO (fun k => k = gO) gB) (WFO (fun k => k = gO) gB) W0 W
  hb : Below w.heap.size w W
  low : ∀ (k : Nat) (o : Obj), k < W0.heap.size → W0.heap[k]? = some o → o.isCells = false → W.heap[k]? = some o
section
variable {u : UntN} {w : World} {gO gX gB : Nat} {d : List Bool} {op : List Int} {W0 : World} {d' : List Bool} {op' : List Int} {g off cap : Nat} {W W1 W' : World}
theorem RwJ.own {row : Option Nat} (h : RwJ u w gO gX gB d op W0 d' op' g off cap W) (hw : w.heap.size ≤ W0.heap.size) (hg : W.grownBy W' row) (hr : ∀ r, row = some r → W0.heap.size ≤ r ∧ ∃ o : Obj, W.heap[r]? = some o ∧ o.isCells = false) :
    RwJ u w gO gX gB d op W0 d' op' g off cap W' := by
  have hc := fun {k : Nat} {o : Obj} => grown_cells hg (fun r e => (hr r e).2) (k := k) (o := o)
  obtain ⟨cur, h1⟩ := h.qb.cells
  refine ⟨h.len, h.opn, h.cnt, ?_, (hc h.x5 rfl).trans h.x5, h.qb.keep (hc h1 rfl), h.o3, h.hk.grown hg (fun r e => (hr r e).2), below_grownF h.hb hg h.hb.size (fun r e => Nat.le_trans hw (hr r e).1), low_grown h.low hg (fun r e => (hr r e).1)⟩
  obtain ⟨cur2, h2, _⟩ := h.bi
  exact h.bi.keep (hc h2 rfl)
/-- The round changes nothing. -/
theorem RwJ.same (HJ : RwJ u w gO gX gB d op W0 d' op' g off cap W) (hb : Below W.heap.size W W1) :
    KeepsOthers W W1 ∧ KeepM (MiO (fun k => k = gO) gB) (WFO (fun k => k = gO) gB) W W1 ∧ RwJ u w gO gX gB d op W0 d' op' g off cap W1 := by
  have hk := KeepM.of_below (fenc_own (fun k => k = gO) gB) HJ.hk.wf hb
  have ho := (Touch.below (S := fun _ => False) hb (Nat.le_refl _)).others
  exact ⟨ho, hk, HJ.len, HJ.opn, HJ.cnt, HJ.bi.below hb, keepBox hb HJ.x5, HJ.qb.below hb, HJ.o3, HJ.hk.trans hk, HJ.hb.step hb, fun k o hk h1 h2 => ho.same k o (HJ.low k o hk h1 h2) h2⟩
/-- The round finds a new place. -/
theorem RwJ.new {k : Nat} {W4 : World} {g2 off2 cap2 : Nat} (HJ : RwJ u w gO gX gB d op W0 d' op' g off cap W) (hb : Below W.heap.size W W1) (hx : k < u.code.length) (hoff : d'.getD k true = false) (hgO : gO < gX) (hw0 : w.heap.size ≤ gO) (hw1 : gX < gB)
    (hq : QB W4 g2 off2 cap2 (op' ++ [(k : Int)])) (hg : ((W1.setCell ⟨gO, k, none⟩ (.bool true)).alloc (.cells #[.int .i64 k] 3)).grownBy W4 (some g)) (hg2 : g2 = g ∨ g2 = ((W1.setCell ⟨gO, k, none⟩ (.bool true)).alloc (.cells #[.int .i64 k] 3)).heap.size) :
    KeepsOthers W (W4.setCell ⟨gB, 0, none⟩ (.slice (some ⟨g2, off2, none⟩) (op'.length + 1) cap2)) ∧ KeepM (MiO (fun k => k = gO) gB) (WFO (fun k => k = gO) gB) W (W4.setCell ⟨gB, 0, none⟩ (.slice (some ⟨g2, off2, none⟩) (op'.length + 1) cap2)) ∧
      RwJ u w gO gX gB d op W0 (d'.set k true) (op' ++ [(k : Int)]) g2 off2 cap2 (W4.setCell ⟨gB, 0, none⟩ (.slice (some ⟨g2, off2, none⟩) (op'.length + 1) cap2)) := by
  obtain ⟨cur, hcg⟩ := HJ.qb.cells
  have lg := HJ.qb.lt
  have lB := lt_of_heap HJ.x5
  have lO := HJ.bi.lt
  have o3 := HJ.o3
  have sz1 := hb.size
  have hkl : k < d'.length := by rw [HJ.len]; exact hx
  have ngB : gB ≠ g := fun e => by
    subst e
    have h := hcg.symm.trans HJ.x5
    simp at h
  have h1g := keepBox hb hcg
  have h1B := keepBox hb HJ.x5
  have e2 : (W1.setCell ⟨gO, k, none⟩ (.bool true)).heap.size = W1.heap.size := by simp
  have e3 : ((W1.setCell ⟨gO, k, none⟩ (.bool true)).alloc (.cells #[.int .i64 k] 3)).heap.size = W1.heap.size + 1 := by simp
  have h3 : ∀ j, j < W1.heap.size → j ≠ gO → ((W1.setCell ⟨gO, k, none⟩ (.bool true)).alloc (.cells #[.int .i64 k] 3)).heap[j]? = W1.heap[j]? := by
    intro j hj hn
    rw [(bnew _ _).block j (by rw [e2]; exact hj), heap_setCell_other _ _ _ _ hn]
  have h3g := (h3 g (by omega) (by omega)).trans h1g
  have h3B := (h3 gB (by omega) (by omega)).trans h1B
  have h4B := (hg.block gB (by omega) (fun e => ngB (by cases e; rfl))).trans h3B
  have sz4 := hg.size
  have T : Touch W.heap.size (fun j => j = gO ∨ j = gB ∨ j = g) W (W4.setCell ⟨gB, 0, none⟩ (.slice (some ⟨g2, off2, none⟩) (op'.length + 1) cap2)) := by
    refine (((((Touch.below hb (Nat.le_refl _)).trans (Touch.put ⟨gO, k, none⟩ _ (.inl (.inl rfl)))).trans (Touch.below (bnew _ _) (by rw [e2]; exact sz1))).trans (Touch.grown hg (.inl (.inr (.inr rfl))) h3g (by omega))).trans (Touch.put ⟨gB, 0, none⟩ _ (.inl (.inr (.inl rfl)))))
  have hx5 : (W4.setCell ⟨gB, 0, none⟩ (.slice (some ⟨g2, off2, none⟩) (op'.length + 1) cap2)).heap[gB]? = some (.cells #[.slice (some ⟨g2, off2, none⟩) (op' ++ [(k : Int)]).length cap2] 28 (0, 0)) := by
    rw [heap_setCell_same _ _ _ _ _ _ h4B]
    simp
  have hc5 := (cell_of_row _ _ 0 _ _ _ hx5).trans rfl
  have lq := hq.lt
  have wf : WFO (fun j => j = gO) gB (W4.setCell ⟨gB, 0, none⟩ (.slice (some ⟨g2, off2, none⟩) (op'.length + 1) cap2)) :=
    ⟨fun j hj => by rw [hj]; simp; omega, ⟨_, hc5⟩, fun b o n c h => by rw [hc5] at h; cases h; simpa using lq⟩
  have c5W : W.cell? ⟨gB, 0, none⟩ = some (.slice (some ⟨g, off, none⟩) op'.length cap) := (cell_of_row _ _ 0 _ _ _ HJ.x5).trans rfl
  have hk : KeepM (MiO (fun k => k = gO) gB) (WFO (fun k => k = gO) gB) W (W4.setCell ⟨gB, 0, none⟩ (.slice (some ⟨g2, off2, none⟩) (op'.length + 1) cap2)) := by
    refine T.keepM (fun j hj m => ?_) wf (fun j hj m => ⟨m.1, m.2.1, fun b o n c h => ?_⟩)
    · rcases hj with h | h | h
      · exact m.1 h
      · exact m.2.1 h
      · exact m.2.2 _ _ _ _ c5W h
    · rw [hc5] at h
      cases h
      rcases hg2 with h | h
      · rw [h]
        exact m.2.2 _ _ _ _ c5W
      · omega
  refine ⟨T.others, hk, by rw [List.length_set]; exact HJ.len, ?_, ?_, ?_, hx5, hq.keep (heap_setCell_other _ _ _ _ ?_), ?_, HJ.hk.trans hk, ?_, fun j o hj h1 h2 => T.others.same j o (HJ.low j o hj h1 h2) h2⟩
  · intro x hx'
    rcases List.mem_append.1 hx' with h | h
    · exact HJ.opn x h
    · rw [List.mem_singleton.1 h]; omega
  · have h1 := offs_set hkl (by rw [getD_in hkl] at hoff; exact hoff)
    have h2 := HJ.cnt
    rw [List.length_append, List.length_singleton]
    omega
  · have b1 := ((HJ.bi.below hb).set (i := k) hkl true).below (bnew _ (.cells #[.int .i64 k] 3))
    exact (b1.keep (hg.block gO (by omega) (fun e => by cases e; omega))).keep (heap_setCell_other _ _ _ _ (by show gO ≠ gB; omega))
  · show g2 ≠ gB
    rcases hg2 with h | h <;> omega
  · rcases hg2 with h | h <;> omega
  · have hb1 := ((HJ.hb.step hb).setCell (p := ⟨gO, k, none⟩) hw0 (.bool true)).step (bnew _ (.cells #[.int .i64 k] 3))
    refine (below_grownF hb1 hg hb1.size (fun r e => by cases e; omega)).setCell (p := ⟨gB, 0, none⟩) ?_ _
    show w.heap.size ≤ gB
    omega
end
/-- The next round of the outer loop. -/
theorem RwI.next {u : UntN} {ca : Option Addr} {cc : Nat} {ga : Option Addr} {gc : Nat} {w : World} {gO gX gB : Nat} {Ds : List Nat} {d : List Bool} {op : List Int} {x : Int} {g off cap : Nat} {wr W0 W : World} {d' : List Bool} {op' : List Int} {g' off' cap' D : Nat} (HI : RwI u ca cc ga gc w gO gX gB Ds d (op ++ [x]) g off cap wr)
    (hle : wr.heap.size ≤ W0.heap.size) (hsm : ∀ k, k < wr.heap.size → k ≠ gB → W0.heap[k]? = wr.heap[k]?)
    (m1 : MiO (fun k => k = gO) gB W0 w.heap.size) (m2 : MiO (fun k => k = gO) gB W0 (w.heap.size + 1)) (m3 : MiO (fun k => k = gO) gB W0 (w.heap.size + 1 + 1)) (m4 : MiO (fun k => k = gO) gB W0 gX) (hJ : RwJ u w gO gX gB d op W0 d' op' g' off' cap' W)
    (hD : W0.heap.size ≤ D) (hdef : W.heap[D]? = some (.deferred (some []))) :
    RwI u ca cc ga gc w gO gX gB (D :: Ds) d' op' g' off' cap' W := by
  have hb := fun {b : Nat} {c : Array Value} {T : TypeId} (h : wr.heap[b]? = some (.cells c T (0, 0))) (hn : b ≠ gB) (m : MiO (fun k => k = gO) gB W0 b) => (hJ.hk.box ⟨(hsm b (lt_of_heap h) hn).trans h, m⟩).1
  have o1 := HI.o1
  have o2 := HI.o2
  have o4 := HI.o4
  have hs0 := HI.hb.size
  have hcn := HI.cnt
  rw [List.length_append, List.length_singleton] at hcn
  have hc2 := hJ.cnt
  refine ⟨hJ.hb, hb HI.x1 (by omega) m1, hb HI.x2 (by omega) m2, hb HI.x3 (by omega) m3, hb HI.x4 (by omega) m4, hJ.bi, hJ.x5, hJ.qb, HI.o1, HI.o2, hJ.o3, HI.o4, ?_, ?_, hJ.len, hJ.opn, by rw [List.length_cons]; omega⟩
  · intro E hE
    rcases List.mem_cons.1 hE with rfl | h
    · exact ⟨by omega, hdef⟩
    · obtain ⟨k1, k2⟩ := HI.ds E h
      have hl := (Array.getElem?_eq_some_iff.1 k2).1
      exact ⟨k1, hJ.low E _ (by omega) ((hsm E hl (fun e => by rw [e] at k2; rw [HI.x5] at k2; cases k2)).trans k2) rfl⟩
  · exact List.nodup_cons.2 ⟨fun h => by have hl := (Array.getElem?_eq_some_iff.1 (HI.ds D h).2).1; omega, HI.nd⟩
end Go.Proofs.YtgalekifgnecjaaGreat
