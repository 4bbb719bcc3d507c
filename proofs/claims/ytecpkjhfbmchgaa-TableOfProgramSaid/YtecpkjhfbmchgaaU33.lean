/- entry and bare of package core. -/
import Derived.Test.YtecpkjhfbmchgaaU32
import Derived.Lib.QuietBelow
namespace Go.Proofs.Ytecpkjhfbmchgaa
open Go.RowKit

abbrev vH (s : ShpN) (fa : Option Addr) (fc : Nat) (ta : Option Addr) (tc : Nat) : Value := .agg #[.string s.name, .slice fa s.fields.length fc, .slice ta s.table.length tc, .int .i64 s.inv]
abbrev oH (s : ShpN) (fa : Option Addr) (fc : Nat) (ta : Option Addr) (tc : Nat) : Obj := .cells #[.string s.name, .slice fa s.fields.length fc, .slice ta s.table.length tc, .int .i64 s.inv] 35
abbrev oS (s : SelN) : Obj := .cells #[.string s.cls, .string s.name, .int .i64 s.args, .bool s.res] 89
set_option maxRecDepth 100000 in
set_option maxHeartbeats 2000000 in
theorem entry_any (p : PrgN) (q : PlN) (s : ShpN) (fa : Option Addr) (fc : Nat) (ta : Option Addr) (tc : Nat) (o : SelN) (e : Int) (w : World) (hu : RdU w q.ua p.units) (_hul : p.units.length ≤ 1000000) (_hfl : s.fields.length ≤ 9223372036854775807) (he : -9223372036854775808 ≤ e) :
    Calls Try.prog 57 #[vP p q, vH s fa fc ta tc, vS o, .int .i64 e] w (RetB (.bool (entryB p s o e)) w) := by
  have HU := hid hu; clear hu
  have HX4 := hid (heapn w (oP p q) _ rfl)
  have HX5 := hid (heapn (w.alloc (oP p q)) (oH s fa fc ta tc) _ rfl)
  have HX6 := hid (heapn ((w.alloc (oP p q)).alloc (oH s fa fc ta tc)) (oS o) _ rfl)
  simp only [World.size_alloc] at HX5 HX6
  replace HX4 := hid (keepBox (bnew _ (oS o)) (keepBox (bnew _ (oH s fa fc ta tc)) HX4.out))
  replace HX5 := hid (keepBox (bnew _ (oS o)) HX5.out)
  have HB := hid (((bnew w (oP p q)).step (bnew _ (oH s fa fc ta tc))).step (bnew _ (oS o)))
  obtain ⟨v, hv⟩ : ∃ v, v = entryB p s o e := ⟨_, rfl⟩
  rw [← hv]
  unfold entryB at hv
  go_enter Try.func57, Try.ntmps57
  go_upto_region 1 with fail
  generalize ((w.alloc (oP p q)).alloc (oH s fa fc ta tc)).alloc (oS o) = w0 at *
  obtain ⟨j0, j1, j2, j3, j4⟩ := box5' HX4.out
  obtain ⟨l0, l1, l2, l3⟩ := box4 HX5.out
  obtain ⟨m0, m1, m2, m3⟩ := box4 HX6.out
  by_cases h1 : e = -1
  · have HV := hid (hv.trans (if_pos h1))
    have e1 : (e == -1) = true := by simpa using h1
    clear hv h1
    go_wp2
    go_ret
    exact ⟨ret_bool HV.out.symm, HB.out⟩
  · have e1 : (e == -1) = false := by simpa using h1
    rw [if_neg h1] at hv
    by_cases h0 : 0 ≤ e
    · rw [if_pos h0] at hv
      have d0 : decide (0 ≤ e) = true := decide_eq_true h0
      obtain ⟨k, rfl⟩ : ∃ k : Nat, e = (k : Int) := ⟨e.toNat, by omega⟩
      clear h1 h0 he
      by_cases hk : k < p.units.length
      · have nk : (k : Int) < (p.units.length : Int) := by omega
        have dk : decide ((k : Int) < (p.units.length : Int)) = true := decide_eq_true nk
        rw [dk, show ((k : Int)).toNat = k from rfl, getD_in hk, Bool.true_and] at hv
        obtain ⟨b, off, ca, cc, ga, gc, hua, _, _, _, g2, _⟩ := (HU.out.below HB.out) k hk
        generalize p.units[k] = un at *
        have HV := hid hv
        clear hv
        rw [hua] at j2
        clear hua
        have q2 := fun d os => cell_regrown j2 d os
        have q6 := fun d os => cell_regrown m2 d os
        have qg := fun d os => cell_regrown g2 d os
        go_upto_region 4 with fail
        refine wp_region_quiet_below (by kernel_rfl) (by kernel_rfl) ?_
        repeat (go_big_quiet_step (fail))
        refine wpQuiet_nil ?_
        rintro _ ⟨p9, rfl⟩
        have hb := below_regrown w0 p9.d p9.os
        generalize Go.Sort.grow (redrawn w0 p9.d) p9.os = wq at *
        go_wp2
        go_ret
        exact ⟨ret_bool HV.out.symm, HB.out.step hb⟩
      · have nk : ¬ (k : Int) < (p.units.length : Int) := by omega
        have dk : decide ((k : Int) < (p.units.length : Int)) = false := decide_eq_false nk
        rw [dk, Bool.false_and] at hv
        have HV := hid hv
        clear hv
        have q2 := fun d os => cell_regrown j2 d os
        go_upto_region 4 with fail
        refine wp_region_quiet_below (by kernel_rfl) (by kernel_rfl) ?_
        repeat (go_big_quiet_step (fail))
        refine wpQuiet_nil ?_
        rintro _ ⟨p9, rfl⟩
        have hb := below_regrown w0 p9.d p9.os
        generalize Go.Sort.grow (redrawn w0 p9.d) p9.os = wq at *
        go_wp2
        go_ret
        exact ⟨ret_bool HV.out.symm, HB.out.step hb⟩
    · rw [if_neg h0] at hv
      have d0 : decide (0 ≤ e) = false := decide_eq_false h0
      have hwr : IntKind.i64.wrap (-2 - e) = -2 - e := wrapk (by omega)
      have e9 : (0 ≤ e) = False := eq_false h0
      cases c1 : decide (-2 - e < (s.fields.length : Int)) with
      | false =>
        rw [c1] at hv
        have HV := hid hv
        clear hv
        go_wp2
        go_ret
        exact ⟨ret_bool (by rw [HV.out]; rfl), HB.out⟩
      | true =>
        rw [c1] at hv
        cases c2 : (o.args == 0) with
        | false =>
          rw [c2] at hv
          have HV := hid hv
          clear hv
          go_wp2
          go_ret
          exact ⟨ret_bool (by rw [HV.out]; rfl), HB.out⟩
        | true =>
          rw [c2] at hv
          have HV := hid hv
          clear hv
          go_wp2
          go_ret
          exact ⟨ret_bool (by rw [HV.out]; rfl), HB.out⟩
set_option maxHeartbeats 2000000 in
theorem bare_any (s : SelN) (w : World) : Calls Try.prog 41 #[vS s] w (RetB (.bool (bareB s)) w) := by
  have HX := hid (heapn w (oS s) _ rfl)
  have HB := hid (bnew w (oS s))
  have HV := hid (show bareB s = (s.args == 0 && !s.res) from rfl)
  generalize bareB s = v at *
  obtain ⟨m0, m1, m2, m3⟩ := box4 HX.out
  go_enter Try.func41, Try.ntmps41
  go_upto_region 1 with fail
  generalize w.alloc (oS s) = w0 at *
  go_wp2
  all_goals go_ret
  all_goals refine ⟨ret_bool ?_, HB.out⟩
  all_goals (rw [HV.out]; simp_all)
end Go.Proofs.Ytecpkjhfbmchgaa
