/- shaped of package core. -/
import Derived.Test.YtecpkjhfbmchgaaU34
namespace Go.Proofs.Ytecpkjhfbmchgaa
open Go.RowKit

/-- What the checks of a program ask of it. -/
structure PgOk (w : World) (p : PrgN) (q : PlN) : Prop where
  pm : PrM w p q
  h1 : p.shapes.length ≤ 1000000
  h2 : p.sels.length ≤ 1000000
  h3 : p.units.length ≤ 1000000
  c1 : p.shapes.length ≤ q.sc
  sn : ∀ s, s ∈ p.sels → s.cls.size ≤ 9223372036854775807 ∧ s.name.size ≤ 9223372036854775807
  hn : ∀ s, s ∈ p.shapes → s.name.size ≤ 9223372036854775807 ∧ s.fields.length ≤ 9223372036854775807 ∧ s.table.length ≤ 9223372036854775807 ∧ ∀ e, e ∈ s.table → -9223372036854775808 ≤ e
  un : ∀ u, u ∈ p.units → u.cls.size ≤ 9223372036854775807 ∧ u.name.size ≤ 9223372036854775807
theorem PgOk.below {w w' : World} {p : PrgN} {q : PlN} (h : PgOk w p q) (hb : Below w.heap.size w w') : PgOk w' p q := ⟨h.pm.below hb, h.h1, h.h2, h.h3, h.c1, h.sn, h.hn, h.un⟩
/-- The error of a shape, told by the shape. -/
def shpS (p : PrgN) (k : Nat) (s : ShpN) : Int :=
  if namedB s.name = false then 4 else if (p.shapes.take k).any (twinB s) = true then 6 else if 60 < s.fields.length then 3 else
  if (s.fields.any fieldBad || s.table.length != p.sels.length || invBad p s) = true then 2 else if (List.range s.table.length).any (entryBad p s) = true then 2 else 0
theorem shpE_eq {p : PrgN} {k : Nat} (hk : k < p.shapes.length) : shpE p k = shpS p k p.shapes[k] := by
  unfold shpE shpS
  rw [getD_in hk]
  have e : (fun o : ShpN => o.name == p.shapes[k].name) = twinB p.shapes[k] := by
    funext o
    exact strBeq _ _
  rw [e]
theorem any_range {f : Nat → Bool} {n t : Nat} (ht : t < n) (h : f t = true) : (List.range n).any f = true := List.any_eq_true.2 ⟨t, List.mem_range.2 ht, h⟩
theorem any_range_no {f : Nat → Bool} {n : Nat} (h : ∀ j, j < n → f j = false) : (List.range n).any f = false := by
  rw [List.any_eq_false]
  intro x hx
  rw [h x (List.mem_range.1 hx)]
  decide
set_option maxRecDepth 100000 in
set_option maxHeartbeats 4000000 in
theorem shaped_any (p : PrgN) (q : PlN) (k : Nat) (w : World) (ho : PgOk w p q) (hk : k < p.shapes.length) : Calls Try.prog 39 #[vP p q, .int .i64 k] w (RetB (.int .i64 (shpE p k)) w) := by
  rw [shpE_eq hk]
  have HO := hid ho; clear ho
  have HX2 := hid (heapn w (oP p q) _ rfl)
  have HB := hid (bnew w (oP p q))
  obtain ⟨b, off, fa, fc, ta, tc, hsa, _, g0, g1, g2, g3, hrf, hrt, htc⟩ := HO.out.pm.rh k hk
  replace g0 := cell_later HB.out g0
  replace g1 := cell_later HB.out g1
  replace g2 := cell_later HB.out g2
  replace g3 := cell_later HB.out g3
  obtain ⟨n1, n2, n3, n4⟩ := HO.out.hn _ (List.getElem_mem hk)
  have hc1 := HO.out.c1
  have HTW := hid (fun (s : ShpN) (fb : Option Addr) (fd : Nat) (tb : Option Addr) (td : Nat) (g : Nat) (cap : Nat) (w1 : World) (hb : Below w.heap.size w w1) (hg : w1.heap[g]? = some (oH s fb fd tb td)) => contains55 s fb fd tb td g (p.shapes.take k) q.sa cap w1 hg ((HO.out.pm.rh.below hb).take k) (by rw [List.length_take]; have := HO.out.h1; omega))
  have hlt : (p.shapes.take k).length = k := by rw [List.length_take]; omega
  simp only [hlt] at HTW
  generalize p.shapes[k] = s at *
  have nk : (k : Int) < (p.shapes.length : Int) := by omega
  have nkc : (k : Int) ≤ (q.sc : Int) := by omega
  obtain ⟨V, hV⟩ : ∃ V, V = shpS p k s := ⟨_, rfl⟩
  rw [← hV]
  unfold shpS at hV
  have HV := hid hV
  clear hV
  have HSA := hid hsa
  clear hsa
  have HRF := hid (fun w1 (hb : Below w.heap.size w w1) => hrf.below hb)
  have HRT := hid (fun w1 (hb : Below w.heap.size w w1) => hrt.below hb)
  have HN4 := hid n4
  clear hrf hrt n4
  go_enter Try.func39, Try.ntmps39
  go_upto_region 1 with fail
  generalize w.alloc (oP p q) = w0 at *
  obtain ⟨j0, j1, j2, j3, j4⟩ := box5' HX2.out
  rw [HSA.out] at j0
  go_upto_region 2 with fail
  have HX5 := hid (heapn w0 (oH s fa fc ta tc) _ rfl)
  replace HX2 := hid (keepBox (bnew w0 (oH s fa fc ta tc)) HX2.out)
  replace HB := hid (HB.out.step (bnew w0 (oH s fa fc ta tc)))
  obtain ⟨bx, hbx⟩ : ∃ b, b = w0.heap.size := ⟨_, rfl⟩
  rw [← hbx] at HX5 ⊢
  generalize w0.alloc (oH s fa fc ta tc) = w1 at *
  clear hbx g0 g1 g2 g3 j0 j1 j2 j3 j4
  obtain ⟨j0, j1, j2, j3, j4⟩ := box5' HX2.out
  rw [HSA.out] at j0
  obtain ⟨l0, l1, l2, l3⟩ := box4 HX5.out
  have HN := hid (fun w => named_any s.name w n1)
  rw [HSA.out] at HTW
  cases hnm : namedB s.name with
  | false =>
    rw [if_pos hnm] at HV
    rw [hnm] at HN
    go_wp2_with (go_at_call 37; (with_reducible refine (HN.out _).mono ?_); rintro e w3 ⟨rfl, hb⟩; replace HB := hid (HB.out.step hb); replace HX2 := hid (keepBox hb HX2.out); replace HX5 := hid (keepBox hb HX5.out); clear j0 j1 j2 j3 j4 l0 l1 l2 l3; obtain ⟨j0, j1, j2, j3, j4⟩ := box5' HX2.out; rw [HSA.out] at j0; obtain ⟨l0, l1, l2, l3⟩ := box4 HX5.out; clear hb)
    go_ret
    exact ⟨ret_int HV.out.symm, HB.out⟩
  | true =>
    rw [if_neg (by rw [hnm]; decide)] at HV
    rw [hnm] at HN
    cases htw : (p.shapes.take k).any (twinB s) with
    | true =>
      rw [if_pos htw] at HV
      have HTX := hid (fun fb fd tb td g cap w1 hb hg => HTW.out s fb fd tb td g cap w1 hb hg)
      simp only [htw] at HTX
      clear HTW htw
      go_wp2_with (first
        | (go_at_call 37; (with_reducible refine (HN.out _).mono ?_); rintro e w3 ⟨rfl, hb⟩; replace HB := hid (HB.out.step hb); replace HX2 := hid (keepBox hb HX2.out); replace HX5 := hid (keepBox hb HX5.out); clear j0 j1 j2 j3 j4 l0 l1 l2 l3; obtain ⟨j0, j1, j2, j3, j4⟩ := box5' HX2.out; rw [HSA.out] at j0; obtain ⟨l0, l1, l2, l3⟩ := box4 HX5.out; clear hb)
        | (go_at_call 54; (with_reducible refine (HTX.out _ _ _ _ _ _ _ HB.out HX5.out).mono ?_); rintro e w4 ⟨rfl, hb⟩; replace HB := hid (HB.out.step hb); replace HX2 := hid (keepBox hb HX2.out); replace HX5 := hid (keepBox hb HX5.out); clear j0 j1 j2 j3 j4 l0 l1 l2 l3; obtain ⟨j0, j1, j2, j3, j4⟩ := box5' HX2.out; rw [HSA.out] at j0; obtain ⟨l0, l1, l2, l3⟩ := box4 HX5.out; clear hb))
      go_ret
      exact ⟨ret_int HV.out.symm, HB.out⟩
    | false =>
      rw [if_neg (by rw [htw]; decide)] at HV
      have HTX := hid (fun fb fd tb td g cap w1 hb hg => HTW.out s fb fd tb td g cap w1 hb hg)
      simp only [htw] at HTX
      clear HTW htw
      by_cases hf : 60 < s.fields.length
      · rw [if_pos hf] at HV
        have df : decide ((60 : Int) < (s.fields.length : Int)) = true := decide_eq_true (by omega)
        go_wp2_with (first
          | (go_at_call 37; (with_reducible refine (HN.out _).mono ?_); rintro e w3 ⟨rfl, hb⟩; replace HB := hid (HB.out.step hb); replace HX2 := hid (keepBox hb HX2.out); replace HX5 := hid (keepBox hb HX5.out); clear j0 j1 j2 j3 j4 l0 l1 l2 l3; obtain ⟨j0, j1, j2, j3, j4⟩ := box5' HX2.out; rw [HSA.out] at j0; obtain ⟨l0, l1, l2, l3⟩ := box4 HX5.out; clear hb)
          | (go_at_call 54; (with_reducible refine (HTX.out _ _ _ _ _ _ _ HB.out HX5.out).mono ?_); rintro e w4 ⟨rfl, hb⟩; replace HB := hid (HB.out.step hb); replace HX2 := hid (keepBox hb HX2.out); replace HX5 := hid (keepBox hb HX5.out); clear j0 j1 j2 j3 j4 l0 l1 l2 l3; obtain ⟨j0, j1, j2, j3, j4⟩ := box5' HX2.out; rw [HSA.out] at j0; obtain ⟨l0, l1, l2, l3⟩ := box4 HX5.out; clear hb))
        go_ret
        exact ⟨ret_int HV.out.symm, HB.out⟩
      · rw [if_neg hf] at HV
        have df : decide ((60 : Int) < (s.fields.length : Int)) = false := decide_eq_false (by omega)
        go_upto_region 8 with (first
          | (go_at_call 37; (with_reducible refine (HN.out _).mono ?_); rintro e w3 ⟨rfl, hb⟩; replace HB := hid (HB.out.step hb); replace HX2 := hid (keepBox hb HX2.out); replace HX5 := hid (keepBox hb HX5.out); clear j0 j1 j2 j3 j4 l0 l1 l2 l3; obtain ⟨j0, j1, j2, j3, j4⟩ := box5' HX2.out; rw [HSA.out] at j0; obtain ⟨l0, l1, l2, l3⟩ := box4 HX5.out; clear hb)
          | (go_at_call 54; (with_reducible refine (HTX.out _ _ _ _ _ _ _ HB.out HX5.out).mono ?_); rintro e w4 ⟨rfl, hb⟩; replace HB := hid (HB.out.step hb); replace HX2 := hid (keepBox hb HX2.out); replace HX5 := hid (keepBox hb HX5.out); clear j0 j1 j2 j3 j4 l0 l1 l2 l3; obtain ⟨j0, j1, j2, j3, j4⟩ := box5' HX2.out; rw [HSA.out] at j0; obtain ⟨l0, l1, l2, l3⟩ := box4 HX5.out; clear hb))
        have HFB := hid (contains56 s.fields fa fc _ (HRF.out _ HB.out) n2)
        obtain ⟨fb, hfb⟩ : ∃ x, x = s.fields.any fieldBad := ⟨_, rfl⟩
        rw [← hfb] at HV HFB
        clear hfb
        go_upto_region 9 with (go_at_call 29; (with_reducible refine HFB.out.mono ?_); rintro e w5 ⟨rfl, rfl⟩)
        obtain ⟨X, hX⟩ : ∃ X, X = (fb || s.table.length != p.sels.length || invBad p s) := ⟨_, rfl⟩
        rw [← hX] at HV
        have HX := hid hX
        clear hX
        have HWI := hid (fun w => within_any s.inv 0 ((p.units.length : Int) - 1) w)
        have hul := HO.out.h3
        go_cut [68] (fun s68 wx => s68 = .bool X ∧ w4 = wx)
        case first =>
          cases fb with
          | true =>
            clear hul
            go_wp2
            go_meet
            exact ⟨by rw [HX.out]; rfl, rfl⟩
          | false =>
            by_cases ht : s.table.length = p.sels.length
            · have hne : ((s.table.length : Int) != (p.sels.length : Int)) = false := by rw [ht]; simp
              have hnn : (s.table.length != p.sels.length) = false := by rw [ht]; simp
              rw [hnn] at HX
              clear ht hnn
              unfold invBad at HX
              cases c3 : (s.inv != -1) with
              | false =>
                rw [c3] at HX
                go_wp2
                go_meet
                exact ⟨by rw [HX.out]; rfl, rfl⟩
              | true =>
                rw [c3] at HX
                cases c4 : inN s.inv 0 ((p.units.length : Int) - 1) with
                | false =>
                  rw [c4] at HX HWI
                  go_wp2_with (go_at_call 38; (with_reducible refine (HWI.out _).mono ?_); rintro e w7 ⟨rfl, rfl⟩)
                  go_meet
                  exact ⟨by rw [HX.out]; rfl, rfl⟩
                | true =>
                  obtain ⟨i0, i1⟩ := (inN_iff _ _ _).1 c4
                  rw [c4] at HX HWI
                  clear c4
                  obtain ⟨m, hm⟩ : ∃ m : Nat, s.inv = (m : Int) := ⟨s.inv.toNat, by omega⟩
                  have hml : m < p.units.length := by omega
                  obtain ⟨ub, uo, _, _, _, _, hua, _, _, _, u2, _⟩ := (HO.out.pm.ru.below HB.out) m hml
                  rw [hm, show ((m : Int)).toNat = m from rfl, getD_in hml] at HX
                  rw [hm] at l3 c3 HWI
                  have nm : (m : Int) < (p.units.length : Int) := by omega
                  rw [hua] at j2
                  generalize p.units[m] = un at *
                  clear hua hm i0 i1
                  cases c5 : (un.args != 0) with
                  | false =>
                    rw [c5] at HX
                    go_wp2_with (go_at_call 38; (with_reducible refine (HWI.out _).mono ?_); rintro e w7 ⟨rfl, rfl⟩)
                    go_meet
                    exact ⟨by rw [HX.out]; rfl, rfl⟩
                  | true =>
                    rw [c5] at HX
                    go_wp2_with (go_at_call 38; (with_reducible refine (HWI.out _).mono ?_); rintro e w7 ⟨rfl, rfl⟩)
                    go_meet
                    exact ⟨by rw [HX.out]; rfl, rfl⟩
            · have hne : ((s.table.length : Int) != (p.sels.length : Int)) = true := by simp; omega
              have hnn : (s.table.length != p.sels.length) = true := by simp [ht]
              rw [hnn] at HX
              clear ht hnn
              go_wp2
              go_meet
              exact ⟨by rw [HX.out]; rfl, rfl⟩
        case rest =>
          obtain ⟨rfl, rfl⟩ := hcut
          cases X with
          | true =>
            rw [if_pos rfl] at HV
            go_wp2
            go_ret
            exact ⟨ret_int HV.out.symm, HB.out⟩
          | false =>
            rw [if_neg (by decide)] at HV
            have hsl : s.table.length = p.sels.length := by
              have h := HX.out.symm
              simp only [Bool.or_eq_false_iff] at h
              simpa using h.1.2
            have HSL := hid hsl
            clear hsl HX HWI
            go_upto_region 12 with fail
            go_loopg [72] s.table.length (fun gh s72 wr => ∃ j : Nat, j ≤ s.table.length ∧ gh = s.table.length - j ∧ s72 = .int .i64 j ∧ Hid (∀ i, i < j → entryBad p s i = false) ∧ Hid (Below w4.heap.size w4 wr))
            case atStart => exact ⟨0, Nat.zero_le _, rfl, rfl, hid (fun i h => absurd h (Nat.not_lt_zero _)), hid (Below.refl _ _)⟩
            case round =>
              obtain ⟨j, hj, rfl, rfl, HQ, HBR⟩ := hrel
              by_cases hlj : j < s.table.length
              · have nj : (j : Int) < (s.table.length : Int) := by omega
                have HB5 := hid (HB.out.step HBR.out)
                obtain ⟨tb, to', hta, _, t0⟩ := (HRT.out _ HB5.out) j hlj
                have hjs : j < p.sels.length := by rw [← HSL.out]; exact hlj
                have njs : (j : Int) < (p.sels.length : Int) := by omega
                obtain ⟨lb, lo, hla, _, s0, s1, s2, s3⟩ := (HO.out.pm.rs.below HB5.out) j hjs
                have HEB := hid (show entryBad p s j = !entryB p s p.sels[j] s.table[j] by unfold entryBad; rw [getD_in hjs, getD_in hlj])
                have HE := hid (fun w1 (hb : Below wr.heap.size wr w1) => entry_any p q s fa fc ta tc p.sels[j] s.table[j] w1 (HO.out.pm.ru.below (HB5.out.step hb)) HO.out.h3 n2 (HN4.out _ (List.getElem_mem hlj)))
                generalize p.sels[j] = sl at *
                generalize s.table[j] = te at *
                generalize entryB p s sl te = eb at *
                have k2 := keepBox HBR.out HX2.out
                have k5 := keepBox HBR.out HX5.out
                clear j0 j1 j2 j3 j4 l0 l1 l2 l3
                obtain ⟨j0, j1, j2, j3, j4⟩ := box5' k2
                obtain ⟨l0, l1, l2, l3⟩ := box4 k5
                have q0 := fun d os => cell_regrown j0 d os
                have q1 := fun d os => cell_regrown j1 d os
                have q2 := fun d os => cell_regrown j2 d os
                have q3 := fun d os => cell_regrown j3 d os
                have q4 := fun d os => cell_regrown j4 d os
                have p0 := fun d os => cell_regrown l0 d os
                have p1 := fun d os => cell_regrown l1 d os
                have p2 := fun d os => cell_regrown l2 d os
                have p3 := fun d os => cell_regrown l3 d os
                have r0 := fun d os => cell_regrown s0 d os
                have r1 := fun d os => cell_regrown s1 d os
                have r2 := fun d os => cell_regrown s2 d os
                have r3 := fun d os => cell_regrown s3 d os
                simp only [vP, hla] at HE
                rw [hla] at q1
                clear hla j0 j1 j2 j3 j4 l0 l1 l2 l3 s0 s1 s2 s3 k2 k5
                subst hta
                go_upto_region 14 with fail
                refine wp_region_quiet_below (by kernel_rfl) (by kernel_rfl) ?_
                repeat (go_big_quiet_step ((go_at_call 57; exact Calls.regrown_of (HE.out _ (below_regrown _ _ _)))))
                refine wpQuiet_nil ?_
                rintro _ ⟨p9, rfl⟩
                have hb9 := below_regrown wr p9.d p9.os
                generalize Go.Sort.grow (redrawn wr p9.d) p9.os = wq at *
                clear q0 q1 q2 q3 q4 p0 p1 p2 p3 r0 r1 r2 r3
                cases eb with
                | false =>
                  rw [if_pos (any_range hlj (by rw [HEB.out]; rfl))] at HV
                  go_wp2
                  go_ret
                  exact ⟨ret_int HV.out.symm, HB5.out.step hb9⟩
                | true =>
                  go_wp2
                  go_roundg (s.table.length - (j + 1))
                  case measure => omega
                  case rel =>
                    refine ⟨j + 1, by omega, rfl, by go_num, hid fun i hi => ?_, hid (HBR.out.step hb9)⟩
                    rcases Nat.lt_succ_iff_lt_or_eq.1 hi with h | rfl
                    · exact HQ.out i h
                    · rw [HEB.out]; rfl
              · obtain rfl : j = s.table.length := by omega
                rw [if_neg (by rw [any_range_no HQ.out]; decide)] at HV
                go_wp2
                go_ret
                exact ⟨ret_int HV.out.symm, HB.out.step HBR.out⟩
end Go.Proofs.Ytecpkjhfbmchgaa
