/- The closures of the reader's group. -/
import Derived.Test.YtgalekifgnecjaaGreatT13
import Derived.Test.YtgalekifgnecjaaGreatS3
namespace Go.Proofs.YtgalekifgnecjaaGreat
open Go.RowKit Go.Shelf
attribute [local go_sem] Oper.semAt_some
attribute [local irreducible] wpStill
theorem cellO {b1 : Nat} {w : World} {T : TypeId} {v : Value} (h1 : w.heap[b1]? = some (.cells #[v] T)) : w.cell? ⟨b1, 0, none⟩ = some v := (cell_of_row _ _ 0 _ _ _ h1).trans rfl
theorem wrapE {y b : Int} (hy : -1000 ≤ y ∧ y ≤ 1000) (hb : -9223372036854775808 ≤ b ∧ b ≤ 9223372036854775807) : (y == IntKind.i64.wrap (-2 - b)) = (y == -2 - b) := by
  by_cases h : b = 9223372036854775807
  · subst h
    have e1 : IntKind.i64.wrap (-2 - 9223372036854775807) = 9223372036854775807 := by decide
    rw [e1]
    have h1 : (y == 9223372036854775807) = false := by simp only [beq_eq_false_iff_ne, ne_eq]; omega
    have h2 : (y == -2 - 9223372036854775807) = false := by simp only [beq_eq_false_iff_ne, ne_eq]; omega
    rw [h1, h2]
  · rw [wrapk (by omega)]
set_option maxRecDepth 100000 in
set_option maxHeartbeats 4000000 in
theorem k219 (w0 : World) (r : RdrN) (a : Nat) (s : Int) (x : InsN) (b1 b2 : Nat) (w : World) (hm : RdrM w0 r) (h : RI w0 r a w) (h1 : w.heap[b1]? = some (.cells #[.pointer (some ⟨w0.heap.size, 0, none⟩)] 177)) (h2 : w.heap[b2]? = some (.cells #[.int .i64 x.op, .int .i64 x.a, .int .i64 x.b, .int .i64 x.c] 85)) (hs : 0 ≤ s ∧ s < r.h.length) (_hl : r.h.length ≤ 1000000) (hy : -1000 ≤ homeN r.h s ∧ homeN r.h s ≤ 1000) (hb : -9223372036854775808 ≤ x.b ∧ x.b ≤ 9223372036854775807) :
    Calls Tryz.prog 219 #[.int .i64 s, .pointer (some ⟨b1, 0, none⟩), .pointer (some ⟨b2, 0, none⟩)] w (RetB (.bool (homeN r.h s == -2 - x.b)) w) := by
  have HE := hid (wrapE hy hb)
  obtain ⟨k, rfl⟩ : ∃ k : Nat, s = (k : Int) := ⟨s.toNat, by omega⟩
  have hk : k < r.h.length := by omega
  obtain ⟨bh, oh, hha, _, h0⟩ := (hm.below h.hb).mh k hk
  have c1 := cellO h1
  obtain ⟨q0, q1, q2, q3⟩ := box4 h2
  have k15 : w.cell? ⟨w0.heap.size, 15, none⟩ = some (.slice (some ⟨bh, oh, none⟩) r.h.length r.hc) := (cell_of_row _ _ 15 _ _ _ h.hr).trans (by rw [← hha]; rfl)
  have nk : (k : Int) < (r.h.length : Int) := by omega
  rw [show homeN r.h (k : Int) = r.h[k] from getD_in hk] at HE
  rw [show homeN r.h (k : Int) = r.h[k] from getD_in hk]
  obtain ⟨e, he⟩ : ∃ e, e = (r.h[k] == -2 - x.b) := ⟨_, rfl⟩
  rw [← he] at HE
  rw [← he]
  clear he hm h h1 h2 hs hha hy
  generalize r.h[k] = z at *
  have HBW := hid (bdrew w)
  go_enter Tryz.func219, Tryz.ntmps219
  go_upto_region 1 with fail
  go_still_tail 12, (by kernel_rfl)
  change wpList _ _ _ _ _ w.drew
  go_wp2
  go_ret
  exact ⟨ret_bool HE.out, HBW.out⟩
theorem enters219 : Enters 219 := enters_of Tryz.func219 (by kernel_rfl) rfl
set_option maxRecDepth 100000 in
set_option maxHeartbeats 4000000 in
theorem k220 (w0 : World) (r : RdrN) (a : Nat) (s : Int) (m : List (Int × Int)) (L : List (Int × Int)) (b1 b2 bm : Nat) (w : World) (hm : RdrM w0 r) (h : RI w0 r a w) (h1 : w.heap[b1]? = some (.cells #[.pointer (some ⟨w0.heap.size, 0, none⟩)] 177)) (h2 : w.heap[b2]? = some (.cells #[.map (some bm)] 120)) (hM : MapAt mkInts w bm L) (hL : getM L s = lastP m s) (hs : 0 ≤ s ∧ s < r.h.length) (hl : r.h.length ≤ 1000000) :
    Calls Tryz.prog 220 #[.int .i64 s, .pointer (some ⟨b1, 0, none⟩), .pointer (some ⟨b2, 0, none⟩)] w (fun e w'' => Below w.heap.size w w'' ∧ ((∃ v, rdChk r.h m s = some v ∧ e = .returned (.int .i64 v)) ∨ (rdChk r.h m s = none ∧ e = .panicked wrongP))) := by
  have hlk := hM.lookOk (T := 120) Tryz.underlying120 (x := s) (show (Lit.int .i64 s).wf = true from wf64 (by omega))
  rw [hL] at hlk
  obtain ⟨k, rfl⟩ : ∃ k : Nat, s = (k : Int) := ⟨s.toNat, by omega⟩
  have hk : k < r.h.length := by omega
  obtain ⟨bh, oh, hha, _, h0⟩ := (hm.below h.hb).mh k hk
  have c1 := cellO h1
  have c2 := cellO h2
  have k15 : w.cell? ⟨w0.heap.size, 15, none⟩ = some (.slice (some ⟨bh, oh, none⟩) r.h.length r.hc) := (cell_of_row _ _ 15 _ _ _ h.hr).trans (by rw [← hha]; rfl)
  have nk : (k : Int) < (r.h.length : Int) := by omega
  have HE : Hid (rdChk r.h m (k : Int) = if 0 ≤ r.h[k] then some r.h[k] else lastP m (k : Int)) := hid (by unfold rdChk; rw [show homeN r.h (k : Int) = r.h[k] from getD_in hk])
  obtain ⟨o, ho⟩ : ∃ o, o = rdChk r.h m (k : Int) := ⟨_, rfl⟩
  rw [← ho] at HE
  rw [← ho]
  clear ho hm h h1 h2 hs hha hL hM
  generalize r.h[k] = z at *
  by_cases hz : 0 ≤ z
  · rw [if_pos hz] at HE
    go_enter Tryz.func220, Tryz.ntmps220
    go_wp2
    go_ret
    exact ⟨Below.refl _ _, .inl ⟨z, HE.out, rfl⟩⟩
  · rw [if_neg hz] at HE
    cases hp : lastP m (k : Int) with
    | none =>
      rw [hp] at HE hlk
      have hlk2 : (Instr.lookup 120 (.map (some bm)) (.int .i64 k) true).run Tryz.prog w = .ok (.tuple #[.int .i64 0, .bool false]) w := hlk
      clear hlk hp
      go_enter Tryz.func220, Tryz.ntmps220
      go_wp2_with (first
        | (go_at_call 185; (with_reducible refine (must_no _).mono ?_); rintro e w8 ⟨rfl, rfl⟩))
      exact ⟨rfl, Below.refl _ _, .inr ⟨HE.out, rfl⟩⟩
    | some v =>
      rw [hp] at HE hlk
      have hlk2 : (Instr.lookup 120 (.map (some bm)) (.int .i64 k) true).run Tryz.prog w = .ok (.tuple #[.int .i64 v, .bool true]) w := hlk
      clear hlk hp
      go_enter Tryz.func220, Tryz.ntmps220
      go_wp2_with (first
        | (go_at_call 185; (with_reducible refine (must_yes _).mono ?_); rintro e w8 ⟨rfl, rfl⟩))
      go_ret
      exact ⟨Below.refl _ _, .inl ⟨v, HE.out, rfl⟩⟩
theorem enters220 : Enters 220 := enters_of Tryz.func220 (by kernel_rfl) rfl
set_option maxRecDepth 100000 in
set_option maxHeartbeats 8000000 in
theorem k221 (w0 : World) (r : RdrN) (a : Nat) (s : Int) (x : InsN) (l : List Int) (la : Option Addr) (lc : Nat) (b1 b2 b3 : Nat) (w : World) (hm : RdrM w0 r) (h : RI w0 r a w) (h1 : w.heap[b1]? = some (.cells #[.pointer (some ⟨w0.heap.size, 0, none⟩)] 177)) (h2 : w.heap[b2]? = some (.cells #[.int .i64 x.op, .int .i64 x.a, .int .i64 x.b, .int .i64 x.c] 85)) (h3 : w.heap[b3]? = some (.cells #[.slice la l.length lc] 28)) (hr : RdI w la l) (hin : ∀ s ∈ l, 0 ≤ s ∧ s < r.h.length) (hll : l.length ≤ 1000000) (hs : 0 ≤ s ∧ s < r.h.length) (hl : r.h.length ≤ 1000000) (hv : -1000000 ≤ r.v.slots ∧ r.v.slots ≤ 1000000) :
    Calls Tryz.prog 221 #[.int .i64 s, .pointer (some ⟨b1, 0, none⟩), .pointer (some ⟨b2, 0, none⟩), .pointer (some ⟨b3, 0, none⟩)] w (fun e w'' => Below w.heap.size w w'' ∧ ((∃ v, wrChk r.v r.h l x s = some v ∧ e = .returned (.int .i64 v)) ∨ (wrChk r.v r.h l x s = none ∧ e = .panicked wrongP))) := by
  obtain ⟨k, rfl⟩ : ∃ k : Nat, s = (k : Int) := ⟨s.toNat, by omega⟩
  have hk : k < r.h.length := by omega
  obtain ⟨bh, oh, hha, _, h0⟩ := (hm.below h.hb).mh k hk
  have c1 := cellO h1
  have c3 := cellO h3
  obtain ⟨q0, q1, q2, q3⟩ := box4 h2
  have k15 : w.cell? ⟨w0.heap.size, 15, none⟩ = some (.slice (some ⟨bh, oh, none⟩) r.h.length r.hc) := (cell_of_row _ _ 15 _ _ _ h.hr).trans (by rw [← hha]; rfl)
  have k11 : w.cell? ⟨w0.heap.size, 11, none⟩ = some (.int .i64 r.v.slots) := (cell_of_row _ _ 11 _ _ _ h.hr).trans rfl
  have nk : (k : Int) < (r.h.length : Int) := by omega
  have HE : Hid (wrChk r.v r.h l x (k : Int) = if 0 ≤ r.h[k] then some r.h[k] else if (inN x.a 0 (r.v.slots - 1) && !takenB r.h x.a l) = true then some x.a else none) := hid (by unfold wrChk; rw [show homeN r.h (k : Int) = r.h[k] from getD_in hk])
  have HT := hid (taken_any w0 r a x.a l la lc w.drew hm (h.below (bdrew w)) (hr.below (bdrew w)) hin hl hll)
  have HWI := hid (fun w => within_regs x.a 0 (r.v.slots - 1) w)
  have H2 := hid h2
  obtain ⟨o, ho⟩ : ∃ o, o = wrChk r.v r.h l x (k : Int) := ⟨_, rfl⟩
  rw [← ho] at HE
  rw [← ho]
  clear ho hm h h1 h2 h3 hr hs hha hin
  generalize r.h[k] = z at *
  generalize takenB r.h x.a l = tk at *
  have HBW := hid (bdrew w)
  by_cases hz : 0 ≤ z
  · rw [if_pos hz] at HE
    go_enter Tryz.func221, Tryz.ntmps221
    go_wp2
    go_ret
    exact ⟨Below.refl _ _, .inl ⟨z, HE.out, rfl⟩⟩
  · rw [if_neg hz] at HE
    have e1 : IntKind.i64.wrap (r.v.slots - 1) = r.v.slots - 1 := wrapk (by omega)
    cases hi : inN x.a 0 (r.v.slots - 1) with
    | false =>
      rw [hi] at HE HWI
      have HN : Hid (o = none) := hid HE.out
      clear hi HE
      go_enter Tryz.func221, Tryz.ntmps221
      go_upto_region 3 with fail
      go_still_tail 17, (by kernel_rfl)
      still_call (retS (HWI.out _))
      repeat still_step
      refine wpStill_nil ?_
      change wpList _ _ _ _ _ w.drew
      go_wp2_with (first
        | (go_at_call 185; (with_reducible refine (must_no _).mono ?_); rintro e w8 ⟨rfl, rfl⟩))
      exact ⟨rfl, HBW.out, .inr ⟨HN.out, rfl⟩⟩
    | true =>
      rw [hi, Bool.true_and] at HE
      rw [hi] at HWI
      clear hi
      go_enter Tryz.func221, Tryz.ntmps221
      go_upto_region 3 with fail
      cases tk with
      | true =>
        have HN : Hid (o = none) := hid HE.out
        go_region_with (first
          | (go_at_call 43; (with_reducible refine (HWI.out _).mono ?_); rintro e w3 ⟨rfl, rfl⟩)
          | (go_at_call 218; (with_reducible refine HT.out.mono ?_); rintro e w4 ⟨rfl, hb⟩; have HB4 := hid (HBW.out.step hb); clear hb)
          | (go_at_call 185; (with_reducible refine (must_or _ _).mono ?_); intro e w8 hor; refine hor.elim (fun h1 => ?_) (fun h2 => by obtain ⟨_, rfl, rfl⟩ := h2; exact ⟨rfl, HB4.out, .inr ⟨HN.out, rfl⟩⟩); clear hor; obtain ⟨hbad, rfl, rfl⟩ := h1; have HBad := hid hbad; clear hbad))
        all_goals exact absurd HBad.out (by simp)
      | false =>
        have HN : Hid (o = some x.a) := hid HE.out
        go_region_with (first
          | (go_at_call 43; (with_reducible refine (HWI.out _).mono ?_); rintro e w3 ⟨rfl, rfl⟩)
          | (go_at_call 218; (with_reducible refine HT.out.mono ?_); rintro e w4 ⟨rfl, hb⟩; have HB4 := hid (HBW.out.step hb); obtain ⟨j0, j1, j2, j3⟩ := box4 (keepBox (HBW.out.step hb) H2.out); clear hb)
          | (go_at_call 185; (with_reducible refine (must_yes _).mono ?_); rintro e w8 ⟨rfl, rfl⟩))
        all_goals
          go_wp2
          go_ret
          exact ⟨HB4.out, .inl ⟨x.a, HN.out, rfl⟩⟩
theorem enters221 : Enters 221 := enters_of Tryz.func221 (by kernel_rfl) rfl
end Go.Proofs.YtgalekifgnecjaaGreat
