/- The contract of of of package prove. -/
import Derived.Test.YtnjbahiaelehkaaA11
namespace Go.Proofs.Ytnjbahiaelehkaa
open Go.RowKit

structure LessFacts (wc w' : World) (b7 b4 : Nat) (m : Int) (S : Obj) : Prop where
  c0 : w'.cell? ⟨b7, 0, none⟩ = some (.int .i64 m)
  c1 : w'.cell? ⟨b7, 1, none⟩ = some (.pointer (some ⟨wc.heap.size, 0, none⟩))
  d0 : w'.cell? ⟨b4, 0, none⟩ = some (.int .i64 0)
  d1 : w'.cell? ⟨b4, 1, none⟩ = some (.pointer none)
  f0 : w'.frozen? ⟨b4, 0, none⟩ = false
  f1 : w'.frozen? ⟨b4, 1, none⟩ = false
  rest : But b7 wc w' ∧ w'.heap[wc.heap.size]? = some S

theorem LessFacts.mk' {wc w' : World} {b7 b4 : Nat} {m : Int} {S : Obj} {z : Int} {q : Option Addr}
    (hw : w' = (((wc.alloc S).setCell ⟨b7, 0, none⟩ (.int .i64 m)).setCell ⟨b7, 0 + 1, none⟩ (.pointer (some ⟨wc.heap.size, 0, none⟩)))) (hs : ∀ _ : Nat, (wc.alloc S).heap[b7]? = some (.cells #[.int .i64 z, .pointer q] 102 (0, 0)))
    (h7 : b7 < wc.heap.size) (h4 : b4 < wc.heap.size) (hne : b4 ≠ b7) (k0 : wc.cell? ⟨b4, 0, none⟩ = some (.int .i64 0)) (k1 : wc.cell? ⟨b4, 1, none⟩ = some (.pointer none)) (f0 : wc.frozen? ⟨b4, 0, none⟩ = false) (f1 : wc.frozen? ⟨b4, 1, none⟩ = false) : LessFacts wc w' b7 b4 m S := by
  have hb : But b7 wc w' := by subst hw; exact (((But.refl b7 wc).alloc S).set _ _).set _ _
  have a0 : (wc.alloc S).cell? ⟨b7, 0, none⟩ = some (.int .i64 z) := (cell_of_row _ _ _ _ _ _ (hs 0)).trans rfl
  have a1 : (wc.alloc S).cell? ⟨b7, 1, none⟩ = some (.pointer q) := (cell_of_row _ _ _ _ _ _ (hs 0)).trans rfl
  have fz : ∀ o, w'.frozen? ⟨b4, o, none⟩ = wc.frozen? ⟨b4, o, none⟩ := fun o => World.frozen?_of_block (w := wc) (hb.block b4 h4 hne)
  refine ⟨?_, ?_, (hb.cell (p := ⟨b4, 0, none⟩) h4 hne).trans k0, (hb.cell (p := ⟨b4, 1, none⟩) h4 hne).trans k1, (fz 0).trans f0, (fz 1).trans f1, hb, ?_⟩
  · subst hw; rw [cset_other (by omega)]; exact cset_same _ a0
  · subst hw; refine cset_same (u := .pointer q) _ ?_; rw [cset_other (by omega)]; exact a1
  · subst hw
    rw [heap_setCell_other _ _ _ _ (by show wc.heap.size ≠ b7; omega), heap_setCell_other _ _ _ _ (by show wc.heap.size ≠ b7; omega)]
    exact heapn _ _ _ rfl

set_option maxRecDepth 100000 in
set_option maxHeartbeats 4000000 in
theorem of_any (n : Nat) (hn : n ≤ 12) (w : World) (C : Array Value) (N M : Nat) (no : Option Addr) (tp : Nat → Int) (ty : Nat → Option Addr) (D : Nat → Nat → Int) (T : Nat → Nat → Tr) (hcv : CV C N M no tp ty) (hm : Mat w M D T) (hbd : ∀ i, i < 24 → -FF ≤ tp i ∧ tp i ≤ FF)
    (A P B Q L : Int) (My : Int) (o : Ok n My ⟨A, P, B, Q, L⟩) :
    Calls Try.prog 58 #[.agg C, .agg #[.int .i64 A, .int .i64 P, .int .i64 B, .int .i64 Q, .int .i64 L]] w (OfPost tp ty D T ⟨A, P, B, Q, L⟩ w) := by
  have HCV := hid hcv; clear hcv
  have HM := hid hm; clear hm
  have HBD := hid hbd; clear hbd
  have ha0 : 0 ≤ A := o.a0
  have han : A < n := o.an
  have HO := hid o; clear o
  have hMw := HM.out.big.lt
  go_enter Try.func58, Try.ntmps58
  go_upto_region 0 with fail
  go_cut [2, 3, 4] (fun s2 s3 s4 wx => ∃ c b4 : Nat, s2 = .pointer (some ⟨c, 0, none⟩) ∧ s3 = .pointer (some ⟨c + 1, 0, none⟩) ∧ s4 = .pointer (some ⟨b4, 0, none⟩) ∧ CS wx c N M no tp ty ∧ AMat wx (c + 1) 0 ⟨A, P, B, Q, L⟩ ∧ wx.heap[b4]? = some (.cells #[.int .i64 0, .pointer none] 102 (0, 0)) ∧ Below w.heap.size w wx ∧ w.heap.size ≤ c ∧ b4 = c + 2)
  case first =>
    go_wp2_with fail
    go_meet
    refine ⟨w.heap.size, w.heap.size + 1 + 1, rfl, rfl, rfl, ⟨C, ⟨?_, HCV.out.size⟩, HCV.out⟩, ?_, heapn _ _ _ (by simp), ((bnew _ _).alloc (by simp) _).alloc (by simp; omega) _, Nat.le_refl _, rfl⟩
    · exact (heapo _ _ _ (by simp; omega)).trans ((heapo _ _ _ (by simp)).trans (heapn _ _ _ rfl))
    · have e : ∀ j, (World.alloc (World.alloc (World.alloc w (.cells C 105)) (.cells #[.int .i64 A, .int .i64 P, .int .i64 B, .int .i64 Q, .int .i64 L] 24)) (.cells #[.int .i64 0, .pointer none] 102)).cell? ⟨w.heap.size + 1, j, none⟩ = (#[.int .i64 A, .int .i64 P, .int .i64 B, .int .i64 Q, .int .i64 L] : Array Value)[j]? := by
        intro j
        exact (cello _ _ _ _ (by simp)).trans (celln _ _ _ _ _ (by simp))
      exact ⟨e 0, e 1, e 2, e 3, e 4⟩
  case rest =>
    obtain ⟨c, b4, rfl, rfl, rfl, hcs, ⟨q1, q2, q3, q4, q5⟩, hb4, hbw, hcw, hb4c⟩ := hcut
    simp only [Nat.zero_add] at q1 q2 q3 q4 q5
    have hm2 := HM.out.below hbw
    have HB4C := hid hb4c; clear hb4c
    have k40 : wc.cell? ⟨b4, 0, none⟩ = some (.int .i64 0) := by rw [cell_of_row _ _ _ _ _ _ hb4]; rfl
    have k41 : wc.cell? ⟨b4, 1, none⟩ = some (.pointer none) := by rw [cell_of_row _ _ _ _ _ _ hb4]; rfl
    have f40 : wc.frozen? ⟨b4, 0, none⟩ = false := frozen_of_row _ _ _ _ _ hb4
    have f41 : wc.frozen? ⟨b4, 1, none⟩ = false := frozen_of_row _ _ _ _ _ hb4
    have hb4lt := lt_of_heap hb4
    have HB4 := hid hb4; clear hb4
    have HBW := hid hbw; clear hbw
    have hi := nd_lt24 (s := P) hn ha0 han
    by_cases hq : Q = 0
    · have hqb : (Q == 0) = true := by simpa using hq
      have HQ := hid hq; clear hq
      have hk1 := hcs.most hi
      have hk2 := hcs.why hi
      have hi24 : ((nd A P : Nat) : Int) < 24 := by omega
      have HCS := hid hcs; clear hcs
      have HM2 := hid hm2; clear hm2
      have kx : (wc.setCell ⟨b4, 0, none⟩ (.int .i64 (tp (nd A P)))).cell? ⟨b4, 1, none⟩ = some (.pointer none) := by rw [cset_other (by omega)]; exact k41
      go_wp2_with (go_at_call 63; refine (end_any _ _ (by omega) (by omega) _).mono ?_; rintro e w' ⟨rfl, rfl⟩)
      have hb9 : Below w.heap.size w ((wc.setCell ⟨b4, 0, none⟩ (.int .i64 (tp (nd A P)))).setCell ⟨b4, 1, none⟩ (.pointer (ty (nd A P)))) := (HBW.out.setCell (by have := HB4C.out; show w.heap.size ≤ b4; omega) _).setCell (by have := HB4C.out; show w.heap.size ≤ b4; omega) _
      have r1 : ((wc.setCell ⟨b4, 0, none⟩ (.int .i64 (tp (nd A P)))).setCell ⟨b4, 1, none⟩ (.pointer (ty (nd A P)))).cell? ⟨b4, 1, none⟩ = some (.pointer (ty (nd A P))) := cset_same _ kx
      have r0 : ((wc.setCell ⟨b4, 0, none⟩ (.int .i64 (tp (nd A P)))).setCell ⟨b4, 1, none⟩ (.pointer (ty (nd A P)))).cell? ⟨b4, 0, none⟩ = some (.int .i64 (tp (nd A P))) := by rw [cset_other (by omega)]; exact cset_same _ k40
      refine bodyPost_ret (v := .agg #[.int .i64 (tp (nd A P)), .pointer (ty (nd A P))]) (by simp [results, Try.results58, go_sem, r0, r1]) rfl ⟨hb9, ty (nd A P), ?_, ?_⟩
      · unfold ofM; simp only [HQ.out, if_true]
      · unfold OfP; simp only [HQ.out, if_true]
    · have hqb : (Q == 0) = false := by simpa using hq
      have HQ := hid hq; clear hq
      obtain ⟨hb0, hb1, hb2x⟩ := HO.out.b1 HQ.out
      have hqr : -1 ≤ Q ∧ Q ≤ 1 := by have := HO.out.q; simp only at this; omega
      obtain ⟨hq0, hq1⟩ := hqr
      have hj : nd B (-Q) < 24 := nd_lt24 hn hb0 hb1
      simp only at hb0 hb1
      have hi24 : ((nd A P : Nat) : Int) < 24 := by omega
      have hj24 : ((nd B (-Q) : Nat) : Int) < 24 := by omega
      have hby := hcs.by'
      have hmij := hm2.most _ _ hi hj
      obtain ⟨py, hpy, hqy⟩ := hm2.why _ _ hi hj
      have hcs0 := hcs
      have HCS := hid hcs; clear hcs
      have HM2 := hid hm2; clear hm2
      have HQY := hid hqy; clear hqy
      go_upto_region 5 with (go_at_call 63; refine (end_any _ _ (by omega) (by omega) _).mono ?_; rintro e w' ⟨rfl, rfl⟩)
      generalize hI : nd A P = i at *
      generalize hJ : nd B (-Q) = j at *
      have HI := hid hI; clear hI
      have HJ := hid hJ; clear hJ
      generalize hX : D i j = X at hmij
      have HX := hid hX; clear hX
      have hcc := hcs0.lt
      obtain ⟨w5, rfl⟩ : ∃ w5 : World, w5 = wc := ⟨_, rfl⟩
      go_cut [7] (fun s7 wx => ∃ b7 : Nat, s7 = .pointer (some ⟨b7, 0, none⟩) ∧ wx.heap[b7]? = some (.cells #[.int .i64 X, .pointer py] 102 (0, 0)) ∧ Below w5.heap.size w5 wx ∧ w5.heap.size ≤ b7)
      case first =>
        go_wp2_with fail
        go_meet
        exact ⟨_, rfl, heapn _ _ _ rfl, bnew _ _, Nat.le_refl _⟩
      case rest =>
        obtain ⟨b7, rfl, hb7, hbw7, hb7'⟩ := hcut
        have hoj : ot j < 24 := by have := ot_lt (n := 12) (i := j) (by omega); exact this
        have hoj24 : ((ot j : Nat) : Int) < 24 := by omega
        have hcs7 := HCS.out.below hbw7
        have hk1 := hcs7.most hi
        have hk2 := hcs7.why hi
        have hk3 := hcs7.most hoj
        have hk4 := hcs7.why hoj
        have hcl := hcs7.lt
        have h71 : wc.cell? ⟨b7, 0, none⟩ = some (.int .i64 X) := by rw [cell_of_row _ _ _ _ _ _ hb7]; rfl
        have h7lt := lt_of_heap hb7
        have HCS7 := hid hcs7; clear hcs7
        have HB7 := hid hb7; clear hb7
        have hb40 := cell_later hbw7 k40
        have hb41 := cell_later hbw7 k41
        have HBW7 := hid hbw7; clear hbw7
        obtain ⟨bx1, bx2⟩ := HBD.out i hi
        obtain ⟨by1, by2⟩ := HBD.out (ot j) hoj
        generalize hTX : tp i = x at hk1 bx1 bx2
        generalize hTY : tp (ot j) = y at hk3 by1 by2
        have HTX := hid hTX; clear hTX
        have HTY := hid hTY; clear hTY
        clear k40 k41 f40 f41
        obtain ⟨w7, rfl⟩ : ∃ w7 : World, w7 = wc := ⟨_, rfl⟩
        go_upto_region 6 with fail
        go_cut [8, 9] (fun s8 s9 wx => TwoNew w7.heap.size w7 x y (ty i) (ty (ot j)) s8 s9 wx)
        case first =>
          go_region_held3 (fun w' => w'.cell? ⟨c, 2 + i * 2, none⟩ = some (.int .i64 x) ∧ w'.cell? ⟨c, 2 + i * 2 + 1, none⟩ = some (.pointer (ty i)) ∧ w'.cell? ⟨c, 2 + ot j * 2, none⟩ = some (.int .i64 y) ∧ w'.cell? ⟨c, 2 + ot j * 2 + 1, none⟩ = some (.pointer (ty (ot j)))) (go_keep)
            ((go_at_call 96; refine (other_any j (by omega) _).mono ?_; rintro e w' ⟨rfl, rfl⟩))
          all_goals (go_wp2_with fail; go_meet)
          all_goals first
            | (refine ⟨_, _, rfl, rfl, Nat.le_refl _, Nat.le_succ _, ((bnew _ _).alloc (by simp) _).drew, ?_, ?_, ?_, ?_⟩ <;> simp; done)
            | (refine ⟨_, _, rfl, rfl, Nat.le_succ _, Nat.le_refl _, ((bnew _ _).alloc (by simp) _).drew, ?_, ?_, ?_, ?_⟩ <;> simp; done)
        case rest =>
          obtain ⟨bx, b2, rfl, rfl, hbx, hb2, hbw8, c1, c2, c3, c4⟩ := hcut
          have hbe : Below w5.heap.size w5 wc := (HBW7.out.trans (hbw8.mono HBW7.out.size))
          have h7c := cell_later hbw8 h71
          have h7d := cell_later hbw8 ((cell_of_row w7 b7 1 _ _ _ HB7.out).trans rfl)
          have hb40' := cell_later hbw8 hb40
          have hb41' := cell_later hbw8 hb41
          have f40' : wc.frozen? ⟨b4, 0, none⟩ = false := (hbe.frozen (p := ⟨b4, 0, none⟩) hb4lt).trans (frozen_of_row _ _ _ _ _ HB4.out)
          have f41' : wc.frozen? ⟨b4, 1, none⟩ = false := (hbe.frozen (p := ⟨b4, 1, none⟩) hb4lt).trans (frozen_of_row _ _ _ _ _ HB4.out)
          have hb4lt' : b4 < wc.heap.size := Nat.lt_of_lt_of_le hb4lt hbe.size
          have h7lt' : b7 < wc.heap.size := Nat.lt_of_lt_of_le h7lt hbw8.size
          have hww : Below w.heap.size w wc := HBW.out.trans (hbe.mono HBW.out.size)
          have hmwc := HM2.out.below hbe
          have HM9 := hid hmwc; clear hmwc
          have HWW := hid hww; clear hww
          have HBE := hid hbe; clear hbe
          have HBW8 := hid hbw8; clear hbw8
          clear hb40 hb41 h71
          have hb47 : b4 ≠ b7 := by omega
          have hk41 : ∀ v, (wc.setCell ⟨b4, 0, none⟩ v).cell? ⟨b4, 1, none⟩ = some (.pointer none) := fun v => by rw [cset_other (by omega)]; exact hb41'
          have hmid : ¬(x < FF ∧ y < FF ∧ x + y < X) → ofM tp D ⟨A, P, B, Q, L⟩ = X ∧ OfP tp ty D T ⟨A, P, B, Q, L⟩ py ((wc.setCell ⟨b4, 0, none⟩ (.int .i64 X)).setCell ⟨b4, 1, none⟩ (.pointer py)) := by
            intro hc
            have nb4 : NotD wc b4 := by
              intro C' X' h'
              rw [HBE.out.block _ hb4lt, HB4.out] at h'
              cases h'
              simp
            have hbu : But b4 wc ((wc.setCell ⟨b4, 0, none⟩ (.int .i64 X)).setCell ⟨b4, 1, none⟩ (.pointer py)) := ((But.refl b4 wc).set _ _).set _ _
            constructor
            · unfold ofM
              simp only [HQ.out, if_false, HI.out, HJ.out, HTX.out, HTY.out, HX.out, hc]
            · unfold OfP
              simp only [HQ.out, if_false, HI.out, HJ.out, HTX.out, HTY.out, HX.out, hc]
              intro hf
              obtain ⟨d, e, hd⟩ := HQY.out (by rw [HX.out]; exact hf)
              exact ⟨d, e, ((hd.below HBE.out).but' nb4 hbu)⟩
          have hr0 : ((wc.setCell ⟨b4, 0, none⟩ (.int .i64 X)).setCell ⟨b4, 1, none⟩ (.pointer py)).cell? ⟨b4, 0, none⟩ = some (.int .i64 X) := by rw [cset_other (by omega)]; exact cset_same _ hb40'
          have hr1 : ((wc.setCell ⟨b4, 0, none⟩ (.int .i64 X)).setCell ⟨b4, 1, none⟩ (.pointer py)).cell? ⟨b4, 1, none⟩ = some (.pointer py) := cset_same _ (hk41 _)
          have HR0 := hid hr0; clear hr0
          have HR1 := hid hr1; clear hr1
          have HMID := hid hmid; clear hmid
          have hkx := hk41 (.int .i64 X)
          have HK41 := hid hk41; clear hk41
          have hbfin : ∀ v v' : Value, Below w.heap.size w ((wc.setCell ⟨b4, 0, none⟩ v).setCell ⟨b4, 1, none⟩ v') := fun v v' => (HWW.out.setCell (by have := HB4C.out; show w.heap.size ≤ b4; omega) _).setCell (by have := HB4C.out; show w.heap.size ≤ b4; omega) _
          have HBF := hid hbfin; clear hbfin
          by_cases hx : x < FF
          · have tx : decide (x < 1152921504606846976) = true := decide_eq_true hx
            by_cases hy : y < FF
            · have ty' : decide (y < 1152921504606846976) = true := decide_eq_true hy
              have bb1 : -1152921504606846976 ≤ x := bx1
              have bb2 : -1152921504606846976 ≤ y := by1
              have bb3 : x < 1152921504606846976 := hx
              have bb4 : y < 1152921504606846976 := hy
              by_cases hlt : x + y < X
              · have hrow7 := (HBW8.out.block _ h7lt).trans HB7.out
                have hwhy := why101 bx b2 _ _ _ c2 c4
                have hs7 : ∀ _ : Nat, ((wc.alloc (.cells #[.int .i64 2, .int .i64 0, .pointer (ty i), .pointer (ty (ot j))] 164)).heap[b7]? = some (.cells #[.int .i64 X, .pointer py] 102 (0, 0))) := fun _ => (heapo _ _ _ h7lt').trans hrow7
                have hpost : ∀ v w1, NewSum wc (ty i) (ty (ot j)) v w1 → (∃ p, v = .pointer p) ∧ (∃ x, w1.cell? ⟨b7, 0, none⟩ = some x) ∧ (∃ x, w1.cell? ⟨b7, 0 + 1, none⟩ = some x) ∧ w1.frozen? ⟨b7, 0, none⟩ = false ∧ w1.frozen? ⟨b7, 0 + 1, none⟩ = false := by
                  rintro v w1 ⟨rfl, rfl⟩
                  exact ⟨⟨_, rfl⟩, ⟨_, (cell_of_row _ _ _ _ _ _ (hs7 0)).trans rfl⟩, ⟨_, (cell_of_row _ _ _ _ _ _ (hs7 0)).trans rfl⟩, frozen_of_row _ _ _ _ _ (hs7 0), frozen_of_row _ _ _ _ _ (hs7 0)⟩
                have HPOST := hid hpost; clear hpost
                have HWHY := hid hwhy; clear hwhy
                have HS7 := hid hs7; clear hs7
                have HROW7 := hid hrow7; clear hrow7
                go_wp2_with fail
                refine (less_yes101 b7 _ _ X _ _ _ _ h7c hlt HWHY.out HPOST.out).mono ?_
                (rintro e w' ⟨rfl, v, w1, ⟨rfl, rfl⟩, hw'⟩; have HW' := hid hw'; clear hw'; have hu := LessFacts.mk' HW'.out HS7.out h7lt' hb4lt' hb47 hb40' hb41' f40' f41'; obtain ⟨u1, u2, u3, u4, u5, u6, u7⟩ := hu; have HU7 := hid u7; clear u7)
                go_wp2
                have hz0 := HU7.out.1
                have hs0 := HU7.out.2
                have e0 : ((w'.setCell ⟨b4, 0, none⟩ (.int .i64 (x + y))).setCell ⟨b4, 1, none⟩ (.pointer (some ⟨wc.heap.size, 0, none⟩))).cell? ⟨b4, 0, none⟩ = some (.int .i64 (x + y)) := by rw [cset_other (by omega)]; exact cset_same _ u3
                have e1 : ((w'.setCell ⟨b4, 0, none⟩ (.int .i64 (x + y))).setCell ⟨b4, 1, none⟩ (.pointer (some ⟨wc.heap.size, 0, none⟩))).cell? ⟨b4, 1, none⟩ = some (.pointer (some ⟨wc.heap.size, 0, none⟩)) := by
                  refine cset_same (u := .pointer none) _ ?_; rw [cset_other (by omega)]; exact u4
                have hlb : Below w.heap.size w w' := HWW.out.trans (hz0.below (by have := HBW.out.size; omega) HWW.out.size)
                refine bodyPost_ret (v := .agg #[.int .i64 (x + y), .pointer (some ⟨wc.heap.size, 0, none⟩)]) (by simp [results, Try.results58, go_sem, e0, e1]) rfl ⟨(hlb.setCell (by have := HB4C.out; show w.heap.size ≤ b4; omega) _).setCell (by have := HB4C.out; show w.heap.size ≤ b4; omega) _, some ⟨wc.heap.size, 0, none⟩, ?_, ?_⟩
                · have hc : x < FF ∧ y < FF ∧ x + y < X := ⟨hx, hy, hlt⟩
                  unfold ofM
                  simp only [HQ.out, if_false, HI.out, HJ.out, HTX.out, HTY.out, HX.out]
                  rw [if_pos hc]
                · have hc : x < FF ∧ y < FF ∧ x + y < X := ⟨hx, hy, hlt⟩
                  unfold OfP
                  simp only [HQ.out, if_false, HI.out, HJ.out, HTX.out, HTY.out, HX.out]
                  rw [if_pos hc]
                  refine ⟨_, rfl, ?_⟩
                  rw [heap_setCell_other _ _ _ _ (by show wc.heap.size ≠ b4; omega), heap_setCell_other _ _ _ _ (by show wc.heap.size ≠ b4; omega)]
                  exact hs0
              · have hle : X ≤ x + y := by omega
                go_wp2_with (go_at_call 100; refine (less_no b7 _ _ X _ _ h7c hle).mono ?_; rintro e w' ⟨rfl, rfl⟩)
                obtain ⟨m1, m2⟩ := HMID.out (fun h => by omega)
                exact bodyPost_ret (v := .agg #[.int .i64 X, .pointer py]) (by simp [results, Try.results58, go_sem, HR0.out, HR1.out]) rfl ⟨HBF.out _ _, py, by rw [m1], m2⟩
            · have ty' : decide (y < 1152921504606846976) = false := decide_eq_false hy
              go_wp2
              obtain ⟨m1, m2⟩ := HMID.out (fun h => by omega)
              exact bodyPost_ret (v := .agg #[.int .i64 X, .pointer py]) (by simp [results, Try.results58, go_sem, HR0.out, HR1.out]) rfl ⟨HBF.out _ _, py, by rw [m1], m2⟩
          · have tx : decide (x < 1152921504606846976) = false := decide_eq_false hx
            go_wp2
            obtain ⟨m1, m2⟩ := HMID.out (fun h => by omega)
            exact bodyPost_ret (v := .agg #[.int .i64 X, .pointer py]) (by simp [results, Try.results58, go_sem, HR0.out, HR1.out]) rfl ⟨HBF.out _ _, py, by rw [m1], m2⟩
end Go.Proofs.Ytnjbahiaelehkaa
