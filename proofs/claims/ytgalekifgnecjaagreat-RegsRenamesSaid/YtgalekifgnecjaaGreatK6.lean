/- A list of pairs holds a pair. RegsRenames, walked. RegsRenames: for every input the law returns true, and each argument reads afterwards as it read before. No condition. -/
import Derived.Test.YtgalekifgnecjaaGreatQ3
import Derived.ChangeKeysEq
import Derived.Laws.StructEq
import Derived.Test.YtgalekifgnecjaaGreatQ5
import Derived.Test.YtgalekifgnecjaaGreatN6
import Derived.Test.YtgalekifgnecjaaGreatT6
import Derived.Test.YtgalekifgnecjaaGreatL4
import Derived.BigQuiet
import Derived.Lib.QuietBelow
import Derived.OpenShut
import Derived.Test.YtgalekifgnecjaaGreatJ1
namespace Go.Proofs.YtgalekifgnecjaaGreat
open Go.RowKit

attribute [local go_sem] Oper.semAt_some
attribute [local irreducible] wpStill
theorem und48q : Tryz.prog.underlying 48 = some (.array 2 3) := by kernel_rfl
theorem cells3q : Tryz.prog.cellsOf 3 = 1 := by kernel_rfl
theorem part48_0q (x y : Int) (w : World) : (part 3 #[.int .i64 x, .int .i64 y] (0 * 1)).run Tryz.prog w = .ok (.int .i64 x) w := by
  have a3 := Tryz.isAgg3
  have z3 := Tryz.sizeOf3
  simp [part, go_sem]
theorem part48_1q (x y : Int) (w : World) : (part 3 #[.int .i64 x, .int .i64 y] (1 * 1)).run Tryz.prog w = .ok (.int .i64 y) w := by
  have a3 := Tryz.isAgg3
  have z3 := Tryz.sizeOf3
  simp [part, go_sem]
theorem eq48q (p q : Int × Int) (w : World) : (Op.equalIn 10000 48 (.agg #[.int .i64 p.1, .int .i64 p.2]) (.agg #[.int .i64 q.1, .int .i64 q.2])).run Tryz.prog w = .ok (decide (p = q)) w := by
  obtain ⟨i, hi, _⟩ := info_parts info3
  rw [show (10000 : Nat) = 9998 + 2 from rfl, run_equalIn_array w (9998 + 1) _ _ und48q hi, cells3q]
  have h0 := part48_0q p.1 p.2 w
  have h1 := part48_1q p.1 p.2 w
  have g0 := part48_0q q.1 q.2 w
  have g1 := part48_1q q.1 q.2 w
  have e0 := run_equalIn_int (P := Tryz.prog) w 9998 3 .i64 .i64 p.1 q.1 Tryz.underlying3
  have e1 := run_equalIn_int (P := Tryz.prog) w 9998 3 .i64 .i64 p.2 q.2 Tryz.underlying3
  obtain ⟨a, b⟩ := p
  obtain ⟨c, d⟩ := q
  show (Op.eqItems (9998 + 1) 3 1 _ _ [0, 1]).run Tryz.prog w = _
  simp only [Op.eqItems, Sem.run_bind, h0, g0, e0, Result.andThen_ok]
  by_cases hac : a = c
  · subst hac
    simp only [beq_self_eq_true, Bool.not_true, Bool.false_eq_true, if_false, Sem.run_bind, h1, g1, e1, Result.andThen_ok]
    by_cases hbd : b = d
    · subst hbd
      simp [Sem.run_pure]
    · have : (b == d) = false := by simpa using hbd
      simp [this, Sem.run_pure, hbd]
  · have : (a == c) = false := by simpa using hac
    simp [this, Sem.run_pure, hac]
theorem eqP (p q : Int × Int) (w : World) : (binOp .eql 48 (.agg #[.int .i64 p.1, .int .i64 p.2]) (.agg #[.int .i64 q.1, .int .i64 q.2])).run Tryz.prog w = .ok (.bool (decide (p = q))) w := by
  rw [run_eql_struct, eq48q p q w]
  rfl
def atP (p : Int × Int) (l : List (Int × Int)) : Int := idxP (fun q => decide (p = q)) l
set_option maxRecDepth 100000 in
set_option maxHeartbeats 4000000 in
theorem index75 (p : Int × Int) (l : List (Int × Int)) (a : Option Addr) (c : Nat) (w : World) (hl : RdX encP w a l) (hll : l.length ≤ 1000000) :
    Calls Tryz.prog 75 #[.slice a l.length c, .agg #[.int .i64 p.1, .int .i64 p.2]] w (RetB (.int .i64 (atP p l)) w) := by
  have HL := hid hl
  clear hl
  have HBX := hid (heapn w (.cells #[.int .i64 p.1, .int .i64 p.2] 48) _ rfl)
  have HB0 := hid (bnew w (.cells #[.int .i64 p.1, .int .i64 p.2] 48))
  obtain ⟨wa, hwa⟩ : ∃ wa, wa = w.alloc (.cells #[.int .i64 p.1, .int .i64 p.2] 48) := ⟨_, rfl⟩
  rw [← hwa] at HBX HB0
  go_enter Tryz.func75, Tryz.ntmps75
  go_upto_region 1 with fail
  rw [← hwa]
  clear hwa
  go_upto_region 2 with fail
  go_loopg [4, 5, 8] l.length (fun gh s4 s5 s8 wr => ∃ k : Nat, k ≤ l.length ∧ gh = l.length - k ∧ s8 = .int .i64 k ∧ Hid (∀ x, x ∈ l.take k → decide (p = x) = false) ∧ Hid (Below w.heap.size w wr) ∧ Hid (wr.heap[w.heap.size]? = some (.cells #[.int .i64 p.1, .int .i64 p.2] 48)))
  case atStart => exact ⟨0, Nat.zero_le _, rfl, rfl, hid (by simp), HB0, HBX⟩
  case round =>
    obtain ⟨k, hk, rfl, rfl, HE, HB, HX⟩ := hrel
    by_cases hkl : k < l.length
    · have nk : (k : Int) < (l.length : Int) := by omega
      obtain ⟨b2, o2, ha, _, h0⟩ := HL.out.below HB.out k hkl
      have q0 : wr.cell? ⟨b2, o2 + k * 2, none⟩ = some (.int .i64 l[k].1) := h0 0 _ rfl
      have q1 : wr.cell? ⟨b2, o2 + k * 2 + 1, none⟩ = some (.int .i64 l[k].2) := h0 1 _ rfl
      have q2 : wr.cell? ⟨w.heap.size, 0, none⟩ = some (.int .i64 p.1) := (cell_of_row _ _ _ _ _ _ HX.out).trans rfl
      have q3 : wr.cell? ⟨w.heap.size, 1, none⟩ = some (.int .i64 p.2) := (cell_of_row _ _ _ _ _ _ HX.out).trans rfl
      subst ha
      clear h0
      have HG := hid (idxP_some (p := fun x => decide (p = x)) (l := l) (i := k) hkl)
      have HT : Hid (l.take (k + 1) = l.take k ++ [l[k]]) := hid (take_last hkl)
      generalize l[k] = y at *
      have HNQ := fun w => eqP p y w
      obtain ⟨e, he⟩ : ∃ e, e = decide (p = y) := ⟨_, rfl⟩
      rw [← he] at HNQ
      have hg48 : Tryz.prog.eqGuardType Tryz.prog.depth 48 = false := by kernel_rfl
      cases e with
      | true =>
        have HR : Hid (atP p l = (k : Int)) := hid (HG.out he.symm HE.out)
        clear he HG
        go_upto_region 4 with fail
        go_quiet (fail)
        go_wp2
        go_ret
        exact ⟨ret_int HR.out.symm, bdrewN HB.out _⟩
      | false =>
        have HF := hid he.symm
        clear he HG
        go_upto_region 4 with fail
        go_quiet (fail)
        go_wp2
        go_roundg (l.length - (k + 1))
        case measure => omega
        case rel =>
          refine ⟨k + 1, by omega, rfl, by go_num, hid fun x hx => ?_, hid (bdrewN HB.out _), hid (keepBox (bdrewN (Below.refl _ _) _) HX.out)⟩
          rw [HT.out] at hx
          rcases List.mem_append.1 hx with hx | hx
          · exact HE.out x hx
          · rw [List.mem_singleton.1 hx]; exact HF.out
    · obtain rfl : k = l.length := by omega
      have nk : ¬ (l.length : Int) < (l.length : Int) := by omega
      have HR : Hid (atP p l = -1) := hid (idxP_none (fun x hx => HE.out x (by rw [List.take_length]; exact hx)))
      go_wp2
      go_ret
      exact ⟨ret_int HR.out.symm, HB.out⟩
theorem atP_in {p : Int × Int} {l : List (Int × Int)} (h : p ∈ l) : 0 ≤ atP p l := by
  unfold atP idxP
  cases hf : l.findIdx? (fun q => decide (p = q)) with
  | some i => exact Int.natCast_nonneg i
  | none =>
    rw [List.findIdx?_eq_none_iff] at hf
    have := hf p h
    simp at this
set_option maxRecDepth 100000 in
set_option maxHeartbeats 4000000 in
/-- The list holds the pair. -/
theorem contains27 (p : Int × Int) (l : List (Int × Int)) (a : Option Addr) (c : Nat) (w : World) (hl : RdX encP w a l) (hll : l.length ≤ 1000000) (hp : p ∈ l) :
    Calls Tryz.prog 27 #[.slice a l.length c, .agg #[.int .i64 p.1, .int .i64 p.2]] w (RetB (.bool true) w) := by
  have HI := hid (fun w' (hb : Below w.heap.size w w') => index75 p l a c w' (hl.below hb) hll)
  have HP : Hid (0 ≤ atP p l) := hid (atP_in hp)
  generalize atP p l = r at *
  have dr : (r ≥ 0) := HP.out
  clear hl hp
  have HBX := hid (heapn w (.cells #[.int .i64 p.1, .int .i64 p.2] 48) _ rfl)
  have HB0 := hid (bnew w (.cells #[.int .i64 p.1, .int .i64 p.2] 48))
  have q2 : (w.alloc (.cells #[.int .i64 p.1, .int .i64 p.2] 48)).cell? ⟨w.heap.size, 0, none⟩ = some (.int .i64 p.1) := (cell_of_row _ _ _ _ _ _ HBX.out).trans rfl
  have q3 : (w.alloc (.cells #[.int .i64 p.1, .int .i64 p.2] 48)).cell? ⟨w.heap.size, 1, none⟩ = some (.int .i64 p.2) := (cell_of_row _ _ _ _ _ _ HBX.out).trans rfl
  go_enter Tryz.func27, Tryz.ntmps27
  go_wp2_with (first
    | (go_at_call 75; (with_reducible refine (HI.out _ HB0.out).mono ?_); rintro e w2 ⟨rfl, hb⟩; have HB2 := hid (HB0.out.step hb); clear hb))
  go_ret
  exact ⟨ret_bool (by simp), HB2.out⟩

open Go.RowKit Go.Shelf
theorem few_lenR {u : UntN} (h : fewB u = true) : u.code.length ≤ 610 ∧ u.guards.length ≤ 50 := by
  unfold fewB at h
  simp at h
  omega
/-- What RegsRenames keeps behind named. -/
structure RnJ (w : World) (u v : UntN) (b : Int) (ca : Option Addr) (cc : Nat) (ga : Option Addr) (gc bn b3 b6 bv g cap : Nat) (W : World) : Prop where
  hb : Below w.heap.size w W
  hu : W.heap[w.heap.size]? = some (oU u ca cc ga gc)
  hn : W.heap[bn]? = some (oU u ca cc ga gc)
  hy : W.heap[b3]? = some (.cells #[.int .i64 b] 3)
  hm : W.heap[b6]? = some (.cells #[.int .i64 (u.slots - u.args)] 3)
  mv : UnM W v (some ⟨g, 0, none⟩) cap ga gc
  hv : W.heap[bv]? = some (oU v (some ⟨g, 0, none⟩) cap ga gc)
theorem RnJ.below {w : World} {u v : UntN} {b : Int} {ca : Option Addr} {cc : Nat} {ga : Option Addr} {gc bn b3 b6 bv g cap : Nat} {W W' : World} (h : RnJ w u v b ca cc ga gc bn b3 b6 bv g cap W) (hb : Below W.heap.size W W') : RnJ w u v b ca cc ga gc bn b3 b6 bv g cap W' :=
  ⟨h.hb.step hb, keepBox hb h.hu, keepBox hb h.hn, keepBox hb h.hy, keepBox hb h.hm, h.mv.below hb, keepBox hb h.hv⟩
set_option maxRecDepth 100000 in
set_option maxHeartbeats 40000000 in
theorem renames_any (u : UntN) (b : Int) (hbb : 0 ≤ b ∧ b ≤ 255) (ca : Option Addr) (cc : Nat) (ga : Option Addr) (gc : Nat) (w : World) (hm : UnM w u ca cc ga gc) :
    Calls Tryz.prog 6 #[vU u ca cc ga gc, .int .u8 b] w (RetB (.bool true) w) := by
  have HF := hid (fun w => few_any u ca cc ga gc w)
  have HM := hid hm; clear hm
  have HB0 := hid (bnew w (oU u ca cc ga gc))
  have HX0 := hid (heapn w (oU u ca cc ga gc) _ rfl)
  obtain ⟨wa, hwa⟩ : ∃ wa, wa = w.alloc (oU u ca cc ga gc) := ⟨_, rfl⟩
  rw [← hwa] at HB0 HX0
  go_enter Tryz.func6, Tryz.ntmps6
  go_upto_region 1 with fail
  rw [← hwa]
  clear hwa
  obtain ⟨k0, k1, k2, k3, k4, k5, k6⟩ := box7 HX0.out
  cases e1 : fewB u with
  | false =>
    rw [e1] at HF
    clear e1
    go_wp2_with (first
      | (go_at_call 11; (with_reducible refine (HF.out _).mono ?_); rintro e w2 ⟨rfl, hb⟩; have HB2 := hid (HB0.out.step hb); clear hb)
      | (go_at_call 12; (with_reducible refine (sanity_any _).mono ?_); rintro e w9 ⟨rfl, hb⟩; have HBZ := hid (HB2.out.step hb); clear hb))
    go_ret
    exact ⟨rfl, HBZ.out⟩
  | true =>
  have HUL := hid (few_lenR e1)
  rw [e1] at HF
  clear e1
  go_upto_region 3 with (first
    | (go_at_call 11; (with_reducible refine (HF.out _).mono ?_); rintro e w2 ⟨rfl, hb⟩; have HB2 := hid (HB0.out.step hb); have HX2 := hid (keepBox hb HX0.out); clear hb))
  clear k0 k1 k2 k3 k4 k5 k6 HB0 HX0 HF
  obtain ⟨k0, k1, k2, k3, k4, k5, k6⟩ := box7 HX2.out
  cases hw : writB u with
  | false =>
    have HLE : Hid (∀ W (_ : Below w.heap.size w W), Calls Tryz.prog 24 #[vU u ca cc ga gc] W (RetB (.tuple #[.int .i64 ((0 : Nat) : Int), .int .i64 1]) W)) := hid (fun W hb => by
      have h := leastFn_any u ca cc ga gc W (HM.out.below hb) (by have := HUL.out; omega) (by have := HUL.out; omega)
      rw [hw] at h
      exact h)
    clear hw
    go_wp2_with (first
      | (go_at_call 24; (with_reducible refine (HLE.out _ HB2.out).mono ?_); rintro e w3 ⟨rfl, hb⟩; have HB3 := hid (HB2.out.step hb); clear hb)
      | (go_at_call 12; (with_reducible refine (sanity_any _).mono ?_); rintro e w9 ⟨rfl, hb⟩; have HBZ := hid (HB3.out.step hb); clear hb))
    go_ret
    exact ⟨rfl, HBZ.out⟩
  | true =>
  have HAR := hid (writ_args hw)
  obtain ⟨l0, hl0⟩ : ∃ l, l = leastN u := ⟨_, rfl⟩
  have HLE : Hid (∀ W (_ : Below w.heap.size w W), Calls Tryz.prog 24 #[vU u ca cc ga gc] W (RetB (.tuple #[.int .i64 (l0 : Int), .int .i64 0]) W)) := hid (fun W hb => by
    have h := leastFn_any u ca cc ga gc W (HM.out.below hb) (by have := HUL.out; omega) (by have := HUL.out; omega)
    rw [hw] at h
    rw [hl0]
    exact h)
  have HL0 := hid hl0
  clear hl0
  by_cases hsa : u.slots ≤ u.args
  case pos =>
    clear hw HL0
    go_wp2_with (first
      | (go_at_call 24; (with_reducible refine (HLE.out _ HB2.out).mono ?_); rintro e w3 ⟨rfl, hb⟩; have HB3 := hid (HB2.out.step hb); have j2 := (box7 (keepBox hb HX2.out)).2.2.1; have j3 := (box7 (keepBox hb HX2.out)).2.2.2.1; clear hb)
      | (go_at_call 12; (with_reducible refine (sanity_any _).mono ?_); rintro e w9 ⟨rfl, hb⟩; have HBZ := hid (HB3.out.step hb); clear hb))
    go_ret
    exact ⟨rfl, HBZ.out⟩
  case neg =>
  have hwl := writ_len hw
  have hpl := (plain_leads (writ_plain hw)).1
  have HNA := hid (fun W (hb : Below w.heap.size w W) => named_any u b ca cc ga gc W (HM.out.below hb) (writ_ops hw) hpl hwl HAR.out.1 (by omega) (by have := HAR.out; omega) hbb)
  have HRL := hid (ren_law (turn_ren HAR.out.1 (by omega) b) hw)
  have HGP := hid (clashL_good hw)
  have HTO := hid (fun (bn b3 b6 : Nat) (W : World) (x : Int) (c2 : W.cell? ⟨bn, 2, none⟩ = some (.int .i64 u.args)) (c3 : W.cell? ⟨bn, 3, none⟩ = some (.int .i64 u.slots)) (c4 : W.cell? ⟨b3, 0, none⟩ = some (.int .i64 b)) (c6 : W.cell? ⟨b6, 0, none⟩ = some (.int .i64 (u.slots - u.args))) => to_any x u.args u.slots b bn b3 b6 W c2 c3 c4 c6 HAR.out.1 (by omega) (by have := HAR.out; omega) hbb)
  obtain ⟨f, hf⟩ : ∃ f, f = turnI u.args u.slots b := ⟨_, rfl⟩
  rw [← hf] at HNA HRL HTO
  clear hf
  have HVL := hid (ren_len (f := f) u)
  have HVG : Hid ((renU f u).guards = u.guards) := hid rfl
  obtain ⟨v, hv⟩ : ∃ v, v = renU f u := ⟨_, rfl⟩
  rw [← hv] at HNA HRL HVL HVG
  clear hv
  obtain ⟨p0, hp0⟩ : ∃ p, p = pressN u := ⟨_, rfl⟩
  obtain ⟨cl, hcl⟩ : ∃ c, c = clashL u := ⟨_, rfl⟩
  obtain ⟨cv, hcv⟩ : ∃ c, c = clashL v := ⟨_, rfl⟩
  have HPU : Hid (∀ W (_ : Below w.heap.size w W), Calls Tryz.prog 26 #[vU u ca cc ga gc] W (RetB (.tuple #[.int .i64 (p0 : Int), .int .i64 0]) W)) := hid (fun W hb => by
    have h := press_any u ca cc ga gc W (HM.out.below hb) (by have := HUL.out; omega) (by have := HUL.out; omega)
    rw [hw] at h
    rw [hp0]
    exact h)
  have HLV : Hid (∀ W A cap (_ : UnM W v A cap ga gc), Calls Tryz.prog 24 #[vU v A cap ga gc] W (RetB (.tuple #[.int .i64 (l0 : Int), .int .i64 0]) W)) := hid (fun W A cap hb => by
    have h := leastFn_any v A cap ga gc W hb (by have := HUL.out; have := HVL.out; omega) (by rw [HVG.out]; have := HUL.out; omega)
    rw [HRL.out.1, HRL.out.2.1, ← HL0.out] at h
    exact h)
  have HPV : Hid (∀ W A cap (_ : UnM W v A cap ga gc), Calls Tryz.prog 26 #[vU v A cap ga gc] W (RetB (.tuple #[.int .i64 (p0 : Int), .int .i64 0]) W)) := hid (fun W A cap hb => by
    have h := press_any v A cap ga gc W hb (by have := HUL.out; have := HVL.out; omega) (by rw [HVG.out]; have := HUL.out; omega)
    rw [HRL.out.1, HRL.out.2.2.1, ← hp0] at h
    exact h)
  have HCU := hid (fun W (hb : Below w.heap.size w W) => clashesFn_yes u ca cc ga gc W (HM.out.below hb) (by have := HUL.out; omega) (by have := HUL.out; omega) hw)
  have HCV := hid (fun W A cap (hb : UnM W v A cap ga gc) => clashesFn_yes v A cap ga gc W hb (by have := HUL.out; have := HVL.out; omega) (by rw [HVG.out]; have := HUL.out; omega) HRL.out.1)
  have HCL : Hid (cl.length ≤ 1000000) := hid (by
    rw [hcl]
    exact sortedP_len HGP.out.1 (fun p hp => by have h2 := HGP.out.2 p hp; have h3 := HAR.out; unfold inK; omega))
  have HGB : Hid (∀ p ∈ cl, 0 ≤ p.1 ∧ p.1 < p.2 ∧ p.2 < u.slots) := hid (by rw [hcl]; exact HGP.out.2)
  have HEQ : Hid (cv.length = cl.length ∧ ∀ p ∈ cl, pairP (f p.1) (f p.2) ∈ cv) := hid (by rw [hcl, hcv]; exact HRL.out.2.2.2)
  rw [← hcl] at HCU
  rw [← hcv] at HCV
  clear hw hwl hpl hcl hcv hp0 HRL HGP HL0
  go_upto_region 4 with (first
    | (go_at_call 24; (with_reducible refine (HLE.out _ HB2.out).mono ?_); rintro e w3 ⟨rfl, hb⟩; have HB3 := hid (HB2.out.step hb); have HX3 := hid (keepBox hb HX2.out); clear hb))
  clear k0 k1 k2 k3 k4 k5 k6 HB2 HX2 HLE
  obtain ⟨k0, k1, k2, k3, k4, k5, k6⟩ := box7 HX3.out
  have d3 : ¬ u.slots ≤ u.args := by omega
  obtain ⟨bn, hbn⟩ : ∃ b, b = w3.heap.size := ⟨_, rfl⟩
  go_upto_region 7 with (first
    | (go_at_call 25; (with_reducible refine (HNA.out _ HB3.out).mono ?_); rintro e w4 ⟨hb, b3, b6, g, cap, rfl, hn, hy, hm, hmv⟩; have HB4 := hid (HB3.out.step hb); have HX4 := hid (keepBox hb HX3.out); have HN4 := hid hn; have HY4 := hid hy; have HM4 := hid hm; have HV4 := hid hmv; clear hb hn hy hm hmv))
  clear k0 k1 k2 k3 k4 k5 k6 d3
  obtain ⟨bv, hbv⟩ : ∃ b, b = w4.heap.size := ⟨_, rfl⟩
  obtain ⟨w5, hw5⟩ : ∃ W, W = w4.alloc (oU v (some ⟨g, 0, none⟩) cap ga gc) := ⟨_, rfl⟩
  have HJ : Hid (RnJ w u v b ca cc ga gc bn b3 b6 bv g cap w5) := hid (by
    rw [hw5, hbn]
    exact ⟨HB4.out.step (bnew _ _), keepBox (bnew _ _) HX4.out, keepBox (bnew _ _) HN4.out, keepBox (bnew _ _) HY4.out, keepBox (bnew _ _) HM4.out, HV4.out.below (bnew _ _), heapn _ _ _ hbv⟩)
  rw [← hbv, ← hw5, ← hbn]
  clear hbv hw5 hbn HB4 HX4 HN4 HY4 HM4 HV4 HNA HB3 HX3
  obtain ⟨k0, k1, k2, k3, k4, k5, k6⟩ := box7 HJ.out.hv
  go_upto_region 8 with (first
    | (go_at_call 24; (with_reducible refine (HLV.out _ _ _ HJ.out.mv).mono ?_); rintro e w6 ⟨rfl, hb⟩; have HJ6 := hid (HJ.out.below hb); clear hb))
  clear k0 k1 k2 k3 k4 k5 k6 HJ HLV
  obtain ⟨k0, k1, k2, k3, k4, k5, k6⟩ := box7 HJ6.out.hu
  go_upto_region 9 with (first
    | (go_at_call 26; (with_reducible refine (HPU.out _ HJ6.out.hb).mono ?_); rintro e w7 ⟨rfl, hb⟩; have HJ7 := hid (HJ6.out.below hb); clear hb))
  clear k0 k1 k2 k3 k4 k5 k6 HJ6 HPU
  obtain ⟨k0, k1, k2, k3, k4, k5, k6⟩ := box7 HJ7.out.hv
  go_upto_region 10 with (first
    | (go_at_call 26; (with_reducible refine (HPV.out _ _ _ HJ7.out.mv).mono ?_); rintro e w8 ⟨rfl, hb⟩; have HJ8 := hid (HJ7.out.below hb); clear hb))
  clear k0 k1 k2 k3 k4 k5 k6 HJ7 HPV
  obtain ⟨k0, k1, k2, k3, k4, k5, k6⟩ := box7 HJ8.out.hu
  go_upto_region 11 with (first
    | (go_at_call 19; (with_reducible refine (HCU.out _ HJ8.out.hb).mono ?_); rintro e w9 ⟨hb, v9, rfl, ho⟩; obtain ⟨la, lc, rfl, hr⟩ := ho.rd; have HJ9 := hid (HJ8.out.below hb); have HL9 := hid hr; clear hb ho hr))
  clear k0 k1 k2 k3 k4 k5 k6 HJ8 HCU
  obtain ⟨k0, k1, k2, k3, k4, k5, k6⟩ := box7 HJ9.out.hv
  go_upto_region 12 with (first
    | (go_at_call 19; (with_reducible refine (HCV.out _ _ _ HJ9.out.mv).mono ?_); rintro e w10 ⟨hb, v10, rfl, ho⟩; obtain ⟨ma, mc, rfl, hr⟩ := ho.rd; have HJA := hid (HJ9.out.below hb); have HLA := hid (HL9.out.below hb); have HQA := hid hr; clear hb ho hr))
  clear k0 k1 k2 k3 k4 k5 k6 HJ9 HCV HL9
  have dl : ((cl.length : Int) != (cv.length : Int)) = false := by rw [HEQ.out.1]; simp
  go_upto_region 14 with fail
  clear dl
  go_upto_region 15 with fail
  go_loopg [111] cl.length (fun gh s111 wr => ∃ k : Nat, k ≤ cl.length ∧ gh = cl.length - k ∧ s111 = .int .i64 k ∧ Hid (Below w10.heap.size w10 wr))
  case atStart => exact ⟨0, Nat.zero_le _, rfl, rfl, hid (Below.refl _ _)⟩
  case round =>
    obtain ⟨k, hk, rfl, rfl, HBR⟩ := hrel
    by_cases hkl : k < cl.length
    case pos =>
      have nk : (k : Int) < (cl.length : Int) := by omega
      obtain ⟨bp, op, hpa, _, hcc⟩ := HLA.out.below HBR.out k hkl
      have HPM := hid (HEQ.out.2 _ (List.getElem_mem hkl))
      have q0 : wr.cell? ⟨bp, op + k * 2, none⟩ = some (.int .i64 cl[k].1) := hcc 0 _ rfl
      have q1 : wr.cell? ⟨bp, op + k * 2 + 1, none⟩ = some (.int .i64 cl[k].2) := hcc 1 _ rfl
      clear hcc
      generalize cl[k] = p at *
      obtain ⟨p1, p2⟩ := p
      dsimp only at q0 q1 HPM
      subst hpa
      have HCVL : Hid (cv.length ≤ 1000000) := hid (by rw [HEQ.out.1]; exact HCL.out)
      have HJR := hid (HJA.out.below HBR.out)
      go_upto_region 17 with fail
      clear q0 q1
      obtain ⟨bx, hbx⟩ : ∃ b, b = wr.heap.size := ⟨_, rfl⟩
      obtain ⟨wb, hwb⟩ : ∃ W, W = wr.alloc (.cells #[.int .i64 p1, .int .i64 p2] 48) := ⟨_, rfl⟩
      have HXB : Hid (wb.heap[bx]? = some (.cells #[.int .i64 p1, .int .i64 p2] 48)) := hid (by rw [hwb]; exact heapn _ _ _ hbx)
      have HJB : Hid (RnJ w u v b _ cc ga gc bn b3 b6 bv g cap wb) := hid (by rw [hwb]; exact HJR.out.below (bnew _ _))
      have HBB : Hid (Below w10.heap.size w10 wb) := hid (by rw [hwb]; exact HBR.out.step (bnew _ _))
      rw [← hbx, ← hwb]
      clear hbx hwb HJR
      obtain ⟨x0, x1, _, _⟩ := box2 HXB.out
      have c2 := (box7 HJB.out.hn).2.2.1
      have c3 := (box7 HJB.out.hn).2.2.2.1
      have cy := box1 HJB.out.hy
      have cm := box1 HJB.out.hm
      have z0 : ∀ d os, (Go.Sort.grow (redrawn wb d) os).cell? ⟨bx, 0, none⟩ = some (.int .i64 p1) := fun d os => cell_regrown x0 d os
      have z1 : ∀ d os, (Go.Sort.grow (redrawn wb d) os).cell? ⟨bx, 1, none⟩ = some (.int .i64 p2) := fun d os => cell_regrown x1 d os
      have HTW := hid (fun d os (x : Int) => HTO.out bn b3 b6 (Go.Sort.grow (redrawn wb d) os) x (cell_regrown c2 d os) (cell_regrown c3 d os) (cell_regrown cy d os) (cell_regrown cm d os))
      clear x0 x1 c2 c3 cy cm
      refine wp_region_quiet_below (by kernel_rfl) (by kernel_rfl) ?_
      repeat (go_big_quiet_step ((go_at_call 69; exact Calls.regrown_of (HTW.out _ _ _))))
      refine wpQuiet_nil ?_
      rintro _ ⟨p9, rfl⟩
      have HBQ := hid (HBB.out.step (below_regrown wb p9.d p9.os))
      generalize Go.Sort.grow (redrawn wb p9.d) p9.os = wq at *
      clear z0 z1 HTW
      have HCO := hid (fun y (hy : y ∈ cv) => contains27 y cv ma mc wq (HQA.out.below HBQ.out) HCVL.out hy)
      generalize f p1 = y1 at *
      generalize f p2 = y2 at *
      have HCY := hid (HCO.out (min y1 y2, max y1 y2) HPM.out)
      clear HCO
      have nkb : (k : Int) ≤ 1000000 := by have := HCL.out; omega
      go_wp2_with (first
        | (go_at_call 27; (with_reducible refine HCY.out.mono ?_); rintro e w12 ⟨rfl, hb⟩; have HB12 := hid (HBQ.out.step hb); clear hb))
      go_roundg (cl.length - (k + 1))
      case measure => omega
      case rel => exact ⟨k + 1, by omega, rfl, by go_num, HB12⟩
    case neg =>
      obtain rfl : k = cl.length := by omega
      have nk : ¬ (cl.length : Int) < (cl.length : Int) := by omega
      go_wp2_with (first
        | (go_at_call 12; (with_reducible refine (sanity_any _).mono ?_); rintro e w9 ⟨rfl, hb⟩; have HBZ := hid ((HJA.out.hb.step HBR.out).step hb); clear hb))
      go_ret
      exact ⟨rfl, HBZ.out⟩

open Go.ChangeShapes Go.WideShapes Go.ChangeAt Go.RowKit
theorem read5r : Tryz.prog.readableRec 5 = true := by kernel_rfl
theorem row5r : 5 < Tryz.prog.types.size := of_decide_eq_true (by kernel_rfl)
set_option maxRecDepth 100000 in
set_option maxHeartbeats 1000000 in
theorem regsRenames_lifted (os : Os) (started : os.Started) (H : Type) (enc : TypeId × Value → H) :
    ReturnsInHanded {} Tryz.checked os 6 .any (Rows.regsRenamesSpec.pre6 enc Tryz.prog Tryz.f6 Rows.regsRenamesRow.domain false) (Rows.regsRenamesSpec.post enc Tryz.prog Tryz.f6 false true false false) := by
  refine returnsInHanded_of_change (C := Tryz.checked) Tryz.own started (by kernel_rfl) Tryz.func6
    (ChangeSpec.witness6 (enc := enc) (C := Tryz.checked) false ⟨#[], #[.agg #[.string ⟨#[]⟩, .string ⟨#[]⟩, .int .i64 0, .int .i64 0, .int .i64 0, .slice none 0 0, .slice none 0 0], .int .u8 0], []⟩ 8 (by kernel_rfl) (by kernel_rfl) (by kernel_rfl) (by kernel_rfl)) ?_
  intro W base args ds gs before hval0 hW hcnd _
  have hval : ∀ (j : Nat) t v, Tryz.f6.params[j]? = some t → args[j]? = some v → Value.okWide Tryz.prog W .any base t v := hval0
  have hW' := hW
  obtain ⟨p, q, hA0, hV, rfl, _, _⟩ := hW
  have hA : DataW.TrodAll enc Tryz.prog W 0 (fun _ => true) true Tryz.f6.params.toList args.toList ds p := hA0
  rw [Tryz.params6] at hA hval
  obtain ⟨args⟩ := args
  obtain ⟨v0, vs0, d0, ds0, p0, q0, rfl, rfl, rfl, h0, r0⟩ := trodAll_cons hA
  obtain ⟨v1, vs1, d1, ds1, p1, q1, rfl, rfl, rfl, h1, r1⟩ := trodAll_cons r0
  obtain ⟨rfl, rfl, rfl⟩ := trodAll_nil r1
  obtain ⟨rfl, rfl⟩ := trodVars_none hV
  obtain ⟨u, ca, cc, ga, gc, rfl, mu, _⟩ := open_unit (hval 0 25 v0 rfl rfl) h0
  obtain ⟨b, rfl, rfl, rfl, w1⟩ := open_int Tryz.underlying5 (hval 1 5 v1 rfl rfl) h1
  have hlt : ∀ x ∈ p0 ++ ([] ++ []), x.block < W.heap.size := fun x hx => hW'.lt x (by simpa using hx)
  refine (renames_any u b (bounds_u8 w1) ca cc ga gc W mu).mono fun e W' ⟨he, hb⟩ => ?_
  subst he
  refine ⟨_, rfl, _, _, _, [], p0 ++ ([] ++ []), [], hW', trodAll_mk1 (shut_bool Tryz.underlying4 true), ?_, rfl, hb.frame _, fun h => by cases h⟩
  exact (trodAll_cons_mk (stays read25 row25 h0 hb (fun x hx => hlt x (by simp [hx]))) (trodAll_cons_mk (stays read5r row5r h1 hb (fun x hx => by cases hx)) trodAll_mk0))

theorem regsRenames_holds : Rows.RegsRenamesSaid :=
  OpenClaim.holds_of_wide 6 Tryz.f6 rfl rfl rfl rfl rfl rfl rfl ⟨rfl, rfl, rfl, rfl, rfl⟩ rfl rfl rfl rfl rfl (by kernel_rfl) Tryz.func6 (by kernel_rfl)
    (of_decide_eq_true (by kernel_rfl)) (by unfold Func.isWrapper; first | (rw [if_pos (by decide +kernel)]; kernel_rfl) | (rw [if_neg (by decide +kernel)]; exact ⟨rfl, rfl⟩))
    (fun os started H enc _ => regsRenames_lifted os started H enc)
#print axioms regsRenames_holds
end Go.Proofs.YtgalekifgnecjaaGreat
