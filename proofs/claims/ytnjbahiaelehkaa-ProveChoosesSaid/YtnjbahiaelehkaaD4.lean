/- The reference's begin. -/
import Derived.Test.YtnjbahiaelehkaaD3
import Derived.Deep.QuietTactic
import Derived.BigQuiet
namespace Go.Proofs.Ytnjbahiaelehkaa
open Go.RowKit

def unitM (i j : Nat) : Int := if i = j then 0 else RF
def rowL (i j : Nat) : List Int := (List.range j).map (unitM i)
theorem rowL_len (i j : Nat) : (rowL i j).length = j := by simp [rowL]
theorem rowL_succ (i j : Nat) : rowL i (j + 1) = rowL i j ++ [unitM i j] := by unfold rowL; rw [List.range_succ, List.map_append]; rfl
theorem rowL_at (i j k : Nat) (h : k < (rowL i j).length) : (rowL i j)[k] = unitM i k := by simp [rowL]

/-- What begin returns. -/
def BegPost (l : List AM) (n : Nat) (w : World) (e : Ending) (w' : World) : Prop :=
  Below w.heap.size w w' ∧ ∃ g cap R m, e = .returned (.slice (some ⟨g, 0, none⟩) (2 * n) cap) ∧ MX w' w.heap.size g (2 * n) R m ∧ BegR l n l.length m

set_option maxRecDepth 100000 in
set_option maxHeartbeats 8000000 in
theorem begin_any (n : Nat) (hn1 : 1 ≤ n) (hn : n ≤ 12) (l : List AM) (ok : ∀ a, a ∈ l → Ok n 1000000 a) (a : Option Addr) (cap : Nat) (w : World) (hl : Rd w a l) (hlen : l.length ≤ 1000000) :
    Calls Try.prog 102 #[.int .i64 n, .slice a l.length cap] w (BegPost l n w) := by
  have HL := hid hl; clear hl
  have HOK := hid ok; clear ok
  obtain ⟨i0, hi, hz0, hz1, hz2⟩ := info_parts info3
  obtain ⟨i4, hj4, hy0, hy1, hy2⟩ := info_parts info46
  go_enter Try.func102, Try.ntmps102
  go_wp2
  go_loopg [5, 6] (2 * n) (fun gh s5 s6 wr => ∃ i : Nat, i ≤ 2 * n ∧ gh = 2 * n - i ∧ s6 = .int .i64 i ∧ RowsAt wr w.heap.size (2 * n) i s5 unitM ∧ Below w.heap.size w wr)
  case atStart => exact ⟨0, Nat.zero_le _, rfl, rfl, RowsAt.nil _ _ _ _, Below.refl _ _⟩
  case round =>
    obtain ⟨i, hile, rfl, rfl, hrows, hb⟩ := hrel
    have HR := hid hrows; clear hrows
    have HB := hid hb
    have hsz := hb.size
    clear hb
    by_cases hlt : i < 2 * n
    · have hdi : decide ((i : Int) < 2 * (n : Int)) = true := by simp; omega
      obtain ⟨wo, rfl⟩ : ∃ wo : World, wo = wr := ⟨_, rfl⟩
      go_wp2
      go_loopg [7, 8] (2 * n) (fun gh s7 s8 wx => ∃ j : Nat, j ≤ 2 * n ∧ gh = 2 * n - j ∧ s8 = .int .i64 j ∧ OwnI wx wo.heap.size s7 (rowL i j) ∧ Below wo.heap.size wo wx)
      case atStart => exact ⟨0, Nat.zero_le _, rfl, rfl, ⟨rfl, .inl ⟨rfl, rfl⟩⟩, Below.refl _ _⟩
      case round =>
        obtain ⟨j, hj, rfl, rfl, hown, hbx⟩ := hrel
        by_cases hltj : j < 2 * n
        · unfold OwnI at hown
          rw [rowL_len] at hown
          have hszx := hbx.size
          by_cases he : i = j
          · have he' : ((i : Int) == (j : Int)) = true := by simp; omega
            have hu : unitM i j = 0 := if_pos he
            have HU := hid hu
            clear hu he
            go_wp2_with (at_builtin; refine wpList_append_own _ rfl _ _ 46 rfl wo.heap.size 3 i0 (.int .i64 0) 1 8 Try.underlying46 hi hz0 hz1 hz2 rfl (by decide) _ _ _ rfl (hown.alloc _) ⟨wr.heap.size, 0, none⟩ 1 1 [.int .i64 0] rfl rfl (cell_one_new _ _ _) (by intro u hu; simp at hu; subst hu; rfl) (by unfold maxLen; omega) (by omega) (by simp; omega) ?_; intro v' w3 hown' hgrow hnil)
            go_roundg (2 * n - (j + 1))
            case rel =>
              refine ⟨j + 1, by omega, rfl, by go_num, ?_, (hbx.alloc hszx _).grown hgrow (by simp; omega) (own_ge hown)⟩
              unfold OwnI
              rw [rowL_len, rowL_succ, List.map_append, HU.out]
              exact hown'
            case measure => omega
          · have he' : ((i : Int) == (j : Int)) = false := by simp; omega
            have hu : unitM i j = RF := if_neg he
            have HU := hid hu
            clear hu he
            go_wp2_with (at_builtin; refine wpList_append_own _ rfl _ _ 46 rfl wo.heap.size 3 i0 (.int .i64 0) 1 8 Try.underlying46 hi hz0 hz1 hz2 rfl (by decide) _ _ _ rfl (hown.alloc _) ⟨wr.heap.size, 0, none⟩ 1 1 [.int .i64 1125899906842624] rfl rfl (cell_one_new _ _ _) (by intro u hu; simp at hu; subst hu; rfl) (by unfold maxLen; omega) (by omega) (by simp; omega) ?_; intro v' w3 hown' hgrow hnil)
            go_roundg (2 * n - (j + 1))
            case rel =>
              refine ⟨j + 1, by omega, rfl, by go_num, ?_, (hbx.alloc hszx _).grown hgrow (by simp; omega) (own_ge hown)⟩
              unfold OwnI
              rw [rowL_len, rowL_succ, List.map_append, HU.out]
              exact hown'
            case measure => omega
        · have hje : j = 2 * n := by omega
          obtain ⟨r, cr, hv7, hrg, hrow⟩ := RB.of_own (X := unitM i) hown (by rw [rowL_len]; omega) (rowL_at i j)
          rw [rowL_len, hje] at hv7
          rw [rowL_len, hje] at hrow
          subst hv7
          have hszx := hbx.size
          obtain ⟨xs, hxs⟩ : ∃ xs, wo.ownsRow w.heap.size 46 1 u5 i xs := by
            obtain ⟨Rs, _, h2, _⟩ := HR.out
            exact ⟨_, h2⟩
          have hxs2 := (own_below hxs hbx).alloc (Obj.cells #[.slice (some ⟨r, 0, none⟩) (2 * n) cr] 46)
          have HXS := hid hxs2
          have HROW := hid hrow
          have HBX := hid hbx
          clear hown hxs hxs2 hrow hbx hje
          go_wp2_with (at_builtin; refine wpList_append_lies _ rfl _ _ 108 rfl w.heap.size 46 i4 _ 1 24 Try.underlying108 hj4 hy0 hy1 hy2 rfl (by decide) _ i xs rfl HXS.out ⟨wr.heap.size, 0, none⟩ 1 1 [.slice (some ⟨r, 0, none⟩) (2 * n) cr] rfl rfl (cell_one_new _ _ _) (by intro u hu; simp at hu; subst hu; rfl) (by decide) (by unfold maxLen; omega) (by omega) (by simp; omega) (wr.heap.size + 1) (by simp) ?_; intro g2 cap2 w3 hown3 hg3 hat3 hlt3)
          have hat : u5.ownBlock = (Value.slice (some ⟨g2, 0, none⟩) (i + 1) cap2).ownBlock ∨ (Value.slice (some ⟨g2, 0, none⟩) (i + 1) cap2).ownBlock = some (wr.heap.size + 1) := by
            rcases hat3 with h | h
            · exact .inl h
            · exact .inr (by rw [h]; rfl)
          have hmore := RowsAt.more HR.out HBX.out hsz hrg HROW.out HXS.out hown3 hg3 hat
          have hbw : Below w.heap.size w w3 := ((HB.out.step HBX.out).alloc (by omega) _).grown hg3 (by simp; omega) (fun k hk => (HR.out.own k hk).1)
          go_roundg (2 * n - (i + 1))
          case rel => exact ⟨i + 1, by omega, rfl, by go_num, hmore, hbw⟩
          case measure => omega
    · have hie : i = 2 * n := by omega
      have hro : RowsAt wr w.heap.size (2 * n) (2 * n) u5 unitM := by
        have := HR.out
        rw [hie] at this
        exact this
      obtain ⟨g, cg, R, hv5, hmx⟩ := hro.mx (by omega)
      subst hv5
      have HMX := hid hmx
      clear hmx hie HR hro
      go_wp2
      go_loopg [9] l.length (fun gh s9 wx => ∃ (k : Nat) (m : Nat → Nat → Int), k ≤ l.length ∧ gh = l.length - k ∧ s9 = .int .i64 k ∧ Hid (MX wx w.heap.size g (2 * n) R m ∧ BegR l n k m ∧ Below w.heap.size w wx))
      case atStart => exact ⟨0, unitM, Nat.zero_le _, rfl, rfl, hid ⟨HMX.out, BegR.start (fun i j _ _ => rfl), HB.out⟩⟩
      case round =>
        obtain ⟨k, m, hk, rfl, rfl, HX⟩ := hrel
        by_cases hltk : k < l.length
        · obtain ⟨b2, off, ha, hlt2, h1, h2, h3, h4, h5⟩ := HL.out.below HX.out.2.2 k hltk
          subst ha
          have o := HOK.out l[k] (List.getElem_mem hltk)
          have hx : Hid (l[k] = l[k]) := hid rfl
          obtain ⟨x, hx⟩ : ∃ x, x = l[k] := ⟨_, rfl⟩
          rw [← hx] at h1 h2 h3 h4 h5 o
          have HXE := hid hx
          clear hx
          have oA := o.a0
          have oA2 := o.an
          have oP := o.p
          have oM := o.lo
          have oM2 := o.hi
          have HO := hid o
          clear o
          by_cases hq : x.Q = 0
          · have hqb : (x.Q != 0) = false := by simpa using hq
            go_upto_region 16 with fail
            refine wp_region_still_tail 11 (by kernel_rfl) (by kernel_rfl) ?_
            simp only [List.take_succ_cons, List.take_zero, List.drop_succ_cons, List.drop_zero]
            repeat still_step
            still_call (retS (rnode_any x.A x.P oA (by omega) oP _))
            repeat still_step
            refine wpStill_nil ?_
            change wpList _ _ _ _ _ wr.drew
            go_upto_region 22 with fail
            obtain ⟨A, hA⟩ : ∃ A, A = nd x.A x.P := ⟨_, rfl⟩
            rw [← hA]
            have HAB : Hid (A = nd x.A x.P ∧ (A = if x.Q = 0 then nd x.A x.P else nd x.B x.Q) ∧ (2 * x.M = if x.Q = 0 then 2 * x.M else x.M)) := hid ⟨hA, by rw [if_pos hq, hA], by rw [if_pos hq]⟩
            have HLB : Hid (A < 2 * n) := hid (by rw [hA]; exact nd_lt oA oA2)
            have HW : Hid (MX wr.drew w.heap.size g (2 * n) R m ∧ Below w.heap.size w wr.drew) := hid ⟨HX.out.1.drew, HX.out.2.2.drew⟩
            clear h1 h2 h3 h4 h5 hA hq hqb
            generalize wr.drew = W1 at *
            have la : A < 2 * n := by rw [HAB.out.1]; exact nd_lt oA oA2
            have lb : A < 2 * n := HLB.out
            have loa := ot_lt la
            have lob := ot_lt lb
            obtain ⟨c1, e1⟩ := HW.out.1.hd (ot A) lob
            have e2 := HW.out.1.cell lob la
            have i1 : ((ot A : Nat) : Int) < 2 * (n : Int) := by omega
            have i2 : ((A : Nat) : Int) < 2 * (n : Int) := by omega
            have f2 := (HW.out.1.row (ot A) lob).frozen A
            obtain ⟨v0, hv0⟩ : ∃ v0, v0 = m (ot A) A := ⟨_, rfl⟩
            rw [← hv0] at e2
            have HV0 := hid hv0
            clear hv0
            refine wp_region_still_tail 17 (by kernel_rfl) (by kernel_rfl) ?_
            simp only [List.take_succ_cons, List.take_zero, List.drop_succ_cons, List.drop_zero]
            repeat still_step
            still_call (retS (rother_any A (by omega) _))
            repeat still_step
            still_call (retS (rother_any A (by omega) _))
            repeat still_step
            refine wpStill_nil ?_
            change wpList _ _ _ _ _ W1.drew
            have e2d : W1.drew.cell? ⟨R (ot A), A, none⟩ = some (.int .i64 v0) := e2
            have f2d : W1.drew.frozen? ⟨R (ot A), A, none⟩ = false := f2
            go_upto_region 23 with fail
            have HW2 : Hid (MX (W1.setCell ⟨R (ot A), A, none⟩ (.int .i64 (min v0 (2 * x.M)))).drew w.heap.size g (2 * n) R (setM m (ot A) A (min v0 (2 * x.M))) ∧ Below w.heap.size w (W1.setCell ⟨R (ot A), A, none⟩ (.int .i64 (min v0 (2 * x.M)))).drew) := hid ⟨(HW.out.1.set lob la _).drew, (HW.out.2.setCell (HW.out.1.ge _ lob).1 _).drew⟩
            clear e1 e2 f2 e2d f2d
            generalize (W1.setCell ⟨R (ot A), A, none⟩ (.int .i64 (min v0 (2 * x.M)))).drew = W2 at *
            obtain ⟨c2, d1⟩ := HW2.out.1.hd (ot A) loa
            have d2 := HW2.out.1.cell loa lb
            have i3 : ((ot A : Nat) : Int) < 2 * (n : Int) := by omega
            have i4 : ((A : Nat) : Int) < 2 * (n : Int) := by omega
            have f3 := (HW2.out.1.row (ot A) loa).frozen A
            obtain ⟨v1, hv1⟩ : ∃ v1, v1 = setM m (ot A) A (min v0 (2 * x.M)) (ot A) A := ⟨_, rfl⟩
            rw [← hv1] at d2
            have HV1 := hid hv1
            clear hv1
            refine wp_region_still_tail 17 (by kernel_rfl) (by kernel_rfl) ?_
            simp only [List.take_succ_cons, List.take_zero, List.drop_succ_cons, List.drop_zero]
            repeat still_step
            still_call (retS (rother_any A (by omega) _))
            repeat still_step
            still_call (retS (rother_any A (by omega) _))
            repeat still_step
            refine wpStill_nil ?_
            change wpList _ _ _ _ _ W2.drew
            have d2d : W2.drew.cell? ⟨R (ot A), A, none⟩ = some (.int .i64 v1) := d2
            have f3d : W2.drew.frozen? ⟨R (ot A), A, none⟩ = false := f3
            go_wp2
            go_roundg (l.length - (k + 1))
            case rel =>
              refine ⟨k + 1, setM (setM m (ot A) A (min v0 (2 * x.M))) (ot A) A (min v1 (2 * x.M)), by omega, by omega, by go_num, hid ⟨?_, ?_, ?_⟩⟩
              · exact (HW2.out.1.drew.set loa lb _)
              · have q := HXE.out
                refine (BegR.line HOK.out HX.out.2.1 hltk (a := A) (b := A) (c := 2 * x.M) (by rw [← q]; exact HAB.out.1) (by rw [← q]; exact HAB.out.2.1) (by rw [← q]; exact HAB.out.2.2) ?_ ?_).1
                · rw [HV0.out]
                · rw [HV1.out]
              · exact HW2.out.2.drew.setCell (HW2.out.1.ge _ loa).1 _
            case measure => omega
          · have hqb : (x.Q != 0) = true := by simpa using hq
            have oB := HO.out.b1 hq
            have oQ : x.Q = 1 ∨ x.Q = -1 := by have := HO.out.q; omega
            go_upto_region 16 with fail
            refine wp_region_still_tail 11 (by kernel_rfl) (by kernel_rfl) ?_
            simp only [List.take_succ_cons, List.take_zero, List.drop_succ_cons, List.drop_zero]
            repeat still_step
            still_call (retS (rnode_any x.A x.P oA (by omega) oP _))
            repeat still_step
            refine wpStill_nil ?_
            change wpList _ _ _ _ _ wr.drew
            go_upto_region 20 with fail
            replace h3 : wr.drew.cell? ⟨b2, off + k * 5 + 2, none⟩ = some (.int .i64 x.B) := h3
            replace h4 : wr.drew.cell? ⟨b2, off + k * 5 + 3, none⟩ = some (.int .i64 x.Q) := h4
            replace h5 : wr.drew.cell? ⟨b2, off + k * 5 + 4, none⟩ = some (.int .i64 x.M) := h5
            have HW : Hid (MX wr.drew w.heap.size g (2 * n) R m ∧ Below w.heap.size w wr.drew) := hid ⟨HX.out.1.drew, HX.out.2.2.drew⟩
            clear h1 h2
            generalize wr.drew = W0 at *
            refine wp_region_still_tail 11 (by kernel_rfl) (by kernel_rfl) ?_
            simp only [List.take_succ_cons, List.take_zero, List.drop_succ_cons, List.drop_zero]
            repeat still_step
            still_call (retS (rnode_any x.B x.Q oB.1 (by omega) oQ _))
            repeat still_step
            refine wpStill_nil ?_
            change wpList _ _ _ _ _ W0.drew
            go_upto_region 22 with fail
            obtain ⟨A, hA⟩ : ∃ A, A = nd x.A x.P := ⟨_, rfl⟩
            obtain ⟨B, hB⟩ : ∃ A, A = nd x.B x.Q := ⟨_, rfl⟩
            rw [← hA, ← hB]
            have HAB : Hid (A = nd x.A x.P ∧ (B = if x.Q = 0 then nd x.A x.P else nd x.B x.Q) ∧ (x.M = if x.Q = 0 then 2 * x.M else x.M)) := hid ⟨hA, by rw [if_neg hq, hB], by rw [if_neg hq]⟩
            have HLB : Hid (B < 2 * n) := hid (by rw [hB]; exact nd_lt oB.1 oB.2.1)
            have HW : Hid (MX W0.drew w.heap.size g (2 * n) R m ∧ Below w.heap.size w W0.drew) := hid ⟨HW.out.1.drew, HW.out.2.drew⟩
            clear h3 h4 h5 hA hB hq hqb
            generalize W0.drew = W1 at *
            have la : A < 2 * n := by rw [HAB.out.1]; exact nd_lt oA oA2
            have lb : B < 2 * n := HLB.out
            have loa := ot_lt la
            have lob := ot_lt lb
            obtain ⟨c1, e1⟩ := HW.out.1.hd (ot B) lob
            have e2 := HW.out.1.cell lob la
            have i1 : ((ot B : Nat) : Int) < 2 * (n : Int) := by omega
            have i2 : ((A : Nat) : Int) < 2 * (n : Int) := by omega
            have f2 := (HW.out.1.row (ot B) lob).frozen A
            obtain ⟨v0, hv0⟩ : ∃ v0, v0 = m (ot B) A := ⟨_, rfl⟩
            rw [← hv0] at e2
            have HV0 := hid hv0
            clear hv0
            refine wp_region_still_tail 17 (by kernel_rfl) (by kernel_rfl) ?_
            simp only [List.take_succ_cons, List.take_zero, List.drop_succ_cons, List.drop_zero]
            repeat still_step
            still_call (retS (rother_any B (by omega) _))
            repeat still_step
            still_call (retS (rother_any B (by omega) _))
            repeat still_step
            refine wpStill_nil ?_
            change wpList _ _ _ _ _ W1.drew
            have e2d : W1.drew.cell? ⟨R (ot B), A, none⟩ = some (.int .i64 v0) := e2
            have f2d : W1.drew.frozen? ⟨R (ot B), A, none⟩ = false := f2
            go_upto_region 23 with fail
            have HW2 : Hid (MX (W1.setCell ⟨R (ot B), A, none⟩ (.int .i64 (min v0 (x.M)))).drew w.heap.size g (2 * n) R (setM m (ot B) A (min v0 (x.M))) ∧ Below w.heap.size w (W1.setCell ⟨R (ot B), A, none⟩ (.int .i64 (min v0 (x.M)))).drew) := hid ⟨(HW.out.1.set lob la _).drew, (HW.out.2.setCell (HW.out.1.ge _ lob).1 _).drew⟩
            clear e1 e2 f2 e2d f2d
            generalize (W1.setCell ⟨R (ot B), A, none⟩ (.int .i64 (min v0 (x.M)))).drew = W2 at *
            obtain ⟨c2, d1⟩ := HW2.out.1.hd (ot A) loa
            have d2 := HW2.out.1.cell loa lb
            have i3 : ((ot A : Nat) : Int) < 2 * (n : Int) := by omega
            have i4 : ((B : Nat) : Int) < 2 * (n : Int) := by omega
            have f3 := (HW2.out.1.row (ot A) loa).frozen B
            obtain ⟨v1, hv1⟩ : ∃ v1, v1 = setM m (ot B) A (min v0 (x.M)) (ot A) B := ⟨_, rfl⟩
            rw [← hv1] at d2
            have HV1 := hid hv1
            clear hv1
            refine wp_region_still_tail 17 (by kernel_rfl) (by kernel_rfl) ?_
            simp only [List.take_succ_cons, List.take_zero, List.drop_succ_cons, List.drop_zero]
            repeat still_step
            still_call (retS (rother_any A (by omega) _))
            repeat still_step
            still_call (retS (rother_any A (by omega) _))
            repeat still_step
            refine wpStill_nil ?_
            change wpList _ _ _ _ _ W2.drew
            have d2d : W2.drew.cell? ⟨R (ot A), B, none⟩ = some (.int .i64 v1) := d2
            have f3d : W2.drew.frozen? ⟨R (ot A), B, none⟩ = false := f3
            go_wp2
            go_roundg (l.length - (k + 1))
            case rel =>
              refine ⟨k + 1, setM (setM m (ot B) A (min v0 (x.M))) (ot A) B (min v1 (x.M)), by omega, by omega, by go_num, hid ⟨?_, ?_, ?_⟩⟩
              · exact (HW2.out.1.drew.set loa lb _)
              · have q := HXE.out
                refine (BegR.line HOK.out HX.out.2.1 hltk (a := A) (b := B) (c := x.M) (by rw [← q]; exact HAB.out.1) (by rw [← q]; exact HAB.out.2.1) (by rw [← q]; exact HAB.out.2.2) ?_ ?_).1
                · rw [HV0.out]
                · rw [HV1.out]
              · exact HW2.out.2.drew.setCell (HW2.out.1.ge _ loa).1 _
            case measure => omega
        · have hke : k = l.length := by omega
          have HKE := hid hke
          clear hke
          go_wp2
          go_ret
          obtain ⟨h1, h2, h3⟩ := HX.out
          rw [HKE.out] at h2
          exact ⟨h3, g, cg, R, m, rfl, h1, h2⟩
end Go.Proofs.Ytnjbahiaelehkaa
