/- The contract of the reference's Take. -/
import Derived.Test.YtliajnflmddnoaaQ11
namespace Go.Proofs.Ytliajnflmddnoaa
open Go.RowKit

theorem keep_grown {w w' : World} {gb : Option Nat} {g : Nat} {c : Array Value} {X e : TypeId} (hg : w.grownBy w' gb) (h : w.heap[g]? = some (.cells c X (0, 0))) (ht : ∀ b, gb = some b → ∃ cur, w.heap[b]? = some (.cells cur e (0, 0))) (hne : X ≠ e) : w'.heap[g]? = some (.cells c X (0, 0)) := by
  refine box_kept hg h fun q => ?_
  obtain ⟨cur, hc⟩ := ht g q.symm
  rw [h] at hc
  injection hc with hc
  injection hc with _ e2
  exact hne e2
theorem BI.grown {w w' : World} {gb : Option Nat} {g : Nat} {l : List Int} {e : TypeId} (h : BI w g l) (hg : w.grownBy w' gb) (ht : ∀ b, gb = some b → ∃ cur, w.heap[b]? = some (.cells cur e (0, 0))) (hne : (3 : TypeId) ≠ e) : BI w' g l := by
  obtain ⟨cur, hh, hc⟩ := h
  exact ⟨cur, keep_grown hg hh ht hne, hc⟩
theorem tk_succ {r : Int} {C : List (Int × Int)} {k : Nat} (h : k < C.length) : (C.take (k + 1)).map (takC r) = (C.take k).map (takC r) ++ [takC r C[k]] := by rw [take_last h, List.map_append]; rfl
theorem own_but44 {w : World} {base g : Nat} {v : Value} {l : List (Int × Int)} {c : Array Value} (h : OwnP 99 w base v l) (hg : w.heap[g]? = some (.cells c 44 (0, 0))) (o : Nat) (u : Value) : OwnP 99 (w.setCell ⟨g, o, none⟩ u) base v l :=
  own_later h fun b hb hlt => ((But.refl g w).set o u).block b hlt fun e => by
    obtain ⟨cur, hc⟩ := own_type h b hb
    rw [e, hg] at hc
    injection hc with hc
    injection hc with _ e2
    cases e2
/-- Under way: the box of what is returned, the cells so far. -/
def Tking (L : Ld) (r : Nat) (w1 wr : World) (gS g7 c1 k : Nat) : Prop := ∃ v, wr.heap[g7]? = some (.cells #[.int .i64 L.cols, .slice (some ⟨gS, 0, none⟩) L.starts.length c1, v] 44 (0, 0)) ∧ OwnP 99 wr w1.heap.size v ((L.cells.take k).map (takC r)) ∧ BI wr gS (L.starts.set r (-1)) ∧ Below w1.heap.size w1 wr
/-- Copies of rows, and no cells, in a box of their own. -/
def TkS (L : Ld) (w1 : World) (s7 : Value) (wx : World) : Prop := ∃ a1 c1 gS g7, s7 = .pointer (some ⟨g7, 0, none⟩) ∧ wx.heap[g7]? = some (.cells #[.int .i64 L.cols, .slice a1 L.starts.length c1, .slice none 0 0] 44 (0, 0)) ∧ Below w1.heap.size w1 wx ∧ w1.heap.size ≤ g7 ∧ SP w1.heap.size L.starts wx a1 c1 gS
theorem tks_new {L : Ld} {w1 w : World} {a1 : Option Addr} {c1 gS : Nat} (hb : Below w1.heap.size w1 w) (hs : SP w1.heap.size L.starts w a1 c1 gS) :
    TkS L w1 (.pointer (some ⟨w.heap.size, 0, none⟩)) (w.alloc (.cells #[.int .i64 L.cols, .slice a1 L.starts.length c1, .slice none 0 0] 44)) :=
  ⟨a1, c1, gS, _, rfl, heapn _ _ _ rfl, hb.step (bnew _ _), hb.size, hs.below (bnew _ _)⟩
theorem tks_set {L : Ld} {w1 w : World} {a1 : Option Addr} {c1 gS b : Nat} {x y z : Value} (hb : Below w1.heap.size w1 w) (hs : SP w1.heap.size L.starts w a1 c1 gS) (h : w.heap[b]? = some (.cells #[x, y, z] 44 (0, 0))) (hg : w1.heap.size ≤ b) :
    TkS L w1 (.pointer (some ⟨b, 0, none⟩)) (((w.setCell ⟨b, 0, none⟩ (.int .i64 L.cols)).setCell ⟨b, 1, none⟩ (.slice a1 L.starts.length c1)).setCell ⟨b, 2, none⟩ (.slice none 0 0)) := by
  have hbut : But b w (((w.setCell ⟨b, 0, none⟩ (.int .i64 L.cols)).setCell ⟨b, 1, none⟩ (.slice a1 L.starts.length c1)).setCell ⟨b, 2, none⟩ (.slice none 0 0)) := (((But.refl _ _).set _ _).set _ _).set _ _
  have h0 : (w.setCell ⟨b, 0, none⟩ (.int .i64 L.cols)).heap[b]? = _ := heap_setCell_same _ _ _ _ _ _ h
  have h1 : ((w.setCell ⟨b, 0, none⟩ (.int .i64 L.cols)).setCell ⟨b, 1, none⟩ (.slice a1 L.starts.length c1)).heap[b]? = _ := heap_setCell_same _ _ _ _ _ _ h0
  have h2 : (((w.setCell ⟨b, 0, none⟩ (.int .i64 L.cols)).setCell ⟨b, 1, none⟩ (.slice a1 L.starts.length c1)).setCell ⟨b, 2, none⟩ (.slice none 0 0)).heap[b]? = _ := heap_setCell_same _ _ _ _ _ _ h1
  refine ⟨a1, c1, gS, b, rfl, ?_, ((hb.setCell (p := ⟨b, 0, none⟩) hg _).setCell (p := ⟨b, 1, none⟩) hg _).setCell (p := ⟨b, 2, none⟩) hg _, hg, hs.but hbut (fun hn => (hs.2.2.1 hn).2.ne_box h |>.symm)⟩
  rw [h2]
  rfl

set_option maxRecDepth 100000 in
set_option maxHeartbeats 4000000 in
theorem rtake_bad (L : Ld) (hf : Fit L) (r : Int) (sa : Option Addr) (sc : Nat) (ca : Option Addr) (cc : Nat) (w : World) (hm : LdM w L sa sc ca cc) (hE : chkL L ≠ 0) :
    Calls Try.prog 27 #[vL L sa sc ca cc, .int .i64 r] w (LaysRet (takV L r) 0 (hasE L r) w) := by
  have HM := hid hm; clear hm
  obtain ⟨hb0, hx0, hr0⟩ := two_new w #[.int .i64 L.cols, .slice sa L.starts.length sc, .slice ca L.cells.length cc] laysZero 44 48
  have e1 : hasE L r = chkL L := by unfold hasE; rw [if_neg hE]
  have e2 : takV L r = emptyL := by unfold takV; rw [e1, if_neg hE]
  rw [e1, e2]
  have hne : (chkL L != 0) = true := by rw [bne_iff_ne]; exact hE
  have HC := hid (rcheckL_any L hf sa sc ca cc)
  have HB0 := hid hb0
  have HX0 := hid hx0
  have HR0 := hid hr0
  obtain ⟨k0, k1, k2, _, _, _⟩ := box3 hx0
  clear hb0 hx0 hr0 hE e1 e2
  go_enter Try.func27, Try.ntmps27
  go_wp2_with (go_at_call 37; (with_reducible refine (HC.out _ (HM.out.below HB0.out)).mono ?_); rintro e w1 ⟨rfl, hb⟩; have HB := hid (HB0.out.step hb); obtain ⟨r0, r1, r2, r3, r4, z0, z1, z2, z3, z4⟩ := box5 (keepBox hb HR0.out); clear hb)
  exact bodyPost_ret (v := .agg #[.int .i64 0, .slice none 0 0, .slice none 0 0, .int .i64 0, .int .i64 (chkL L)]) (by simp [results, Try.results27, go_sem, r0, r1, r2, r3, r4]) rfl (LaysRet.empty _ (((((HB.out.setCell (by simp) _).setCell (by simp) _).setCell (by simp) _).setCell (by simp) _).setCell (by simp) _))

set_option maxRecDepth 100000 in
set_option maxHeartbeats 4000000 in
theorem rtake_none (L : Ld) (hf : Fit L) (r : Int) (sa : Option Addr) (sc : Nat) (ca : Option Addr) (cc : Nat) (w : World) (hm : LdM w L sa sc ca cc) (hE : chkL L = 0) (hH : hasE L r ≠ 0) :
    Calls Try.prog 27 #[vL L sa sc ca cc, .int .i64 r] w (LaysRet (takV L r) 0 (hasE L r) w) := by
  have HM := hid hm; clear hm
  obtain ⟨hb0, hx0, hr0⟩ := two_new w #[.int .i64 L.cols, .slice sa L.starts.length sc, .slice ca L.cells.length cc] laysZero 44 48
  have hR := chkL_ok hE
  have e2 : takV L r = emptyL := by unfold takV; rw [if_neg hH]
  have hbad : ¬ (0 ≤ r ∧ r < L.starts.length ∧ 0 ≤ L.st r.toNat) := by
    intro h
    unfold hasE at hH
    rw [if_pos hE, if_pos h] at hH
    exact hH rfl
  have e1 : hasE L r = 5 := by unfold hasE; rw [if_pos hE, if_neg hbad]
  rw [e1, e2]
  have HC : Hid (∀ w, LdM w L sa sc ca cc → Calls Try.prog 37 #[vL L sa sc ca cc] w (RetB (.int .i64 0) w)) := hid fun w h => by
    have := rcheckL_any L hf sa sc ca cc w h
    rwa [hE] at this
  have hrows := hR.rows
  have HST := hid (fun i hi => hR.start i hi)
  have hR1 := fun w => in_any r 0 ((L.starts.length : Int) - 1) w
  rw [in_rows] at hR1
  have HB0 := hid hb0
  have HX0 := hid hx0
  have HR0 := hid hr0
  obtain ⟨k0, k1, k2, _, _, _⟩ := box3 hx0
  clear hb0 hx0 hr0 hE hH hR e1 e2
  cases c1 : (decide (0 ≤ r) && decide (r < (L.starts.length : Int))) with
  | false =>
    rw [c1] at hR1
    have HR1 := hid hR1
    clear hR1 c1 hbad
    go_enter Try.func27, Try.ntmps27
    go_wp2_with (first
      | (go_at_call 37; (with_reducible refine (HC.out _ (HM.out.below HB0.out)).mono ?_); rintro e w1 ⟨rfl, hb⟩; have HB := hid (HB0.out.step hb); obtain ⟨r0, r1, r2, r3, r4, z0, z1, z2, z3, z4⟩ := box5 (keepBox hb HR0.out); obtain ⟨k0, k1, k2, _, _, _⟩ := box3 (keepBox hb HX0.out); clear hb)
      | (go_at_call 53; (with_reducible refine (HR1.out _).mono ?_); rintro e w' ⟨rfl, rfl⟩))
    exact bodyPost_ret (v := .agg #[.int .i64 0, .slice none 0 0, .slice none 0 0, .int .i64 0, .int .i64 5]) (by simp [results, Try.results27, go_sem, r0, r1, r2, r3, r4]) rfl (LaysRet.empty _ (((((HB.out.setCell (by simp) _).setCell (by simp) _).setCell (by simp) _).setCell (by simp) _).setCell (by simp) _))
  | true =>
    rw [c1] at hR1
    have HR1 := hid hR1
    simp only [Bool.and_eq_true, decide_eq_true_eq] at c1
    obtain ⟨r, rfl⟩ : ∃ k : Nat, r = (k : Int) := ⟨r.toNat, by omega⟩
    have hr : r < L.starts.length := by omega
    have hst : L.st r = -1 := by
      rw [Int.toNat_natCast] at hbad
      have := HST.out r hr
      omega
    obtain ⟨bs, os, hsa, hlts, h5⟩ := HM.out.rs.at hr
    have hst' : L.starts.getD r (-1) = L.st r := rfl
    rw [hst', hst] at h5
    have H5 := hid (cell_later HB0.out h5)
    have nr : (r : Int) < (L.starts.length : Int) := by omega
    subst hsa
    clear hR1 c1 hbad h5 hst' hst hlts
    go_enter Try.func27, Try.ntmps27
    go_wp2_with (first
      | (go_at_call 37; (with_reducible refine (HC.out _ (HM.out.below HB0.out)).mono ?_); rintro e w1 ⟨rfl, hb⟩; have HB := hid (HB0.out.step hb); obtain ⟨r0, r1, r2, r3, r4, z0, z1, z2, z3, z4⟩ := box5 (keepBox hb HR0.out); obtain ⟨k0, k1, k2, _, _, _⟩ := box3 (keepBox hb HX0.out); have h5 := cell_later hb H5.out; clear hb)
      | (go_at_call 53; (with_reducible refine (HR1.out _).mono ?_); rintro e w' ⟨rfl, rfl⟩))
    exact bodyPost_ret (v := .agg #[.int .i64 0, .slice none 0 0, .slice none 0 0, .int .i64 0, .int .i64 5]) (by simp [results, Try.results27, go_sem, r0, r1, r2, r3, r4]) rfl (LaysRet.empty _ (((((HB.out.setCell (by simp) _).setCell (by simp) _).setCell (by simp) _).setCell (by simp) _).setCell (by simp) _))

set_option maxRecDepth 100000 in
set_option maxHeartbeats 8000000 in
theorem rtake_ok (L : Ld) (hf : Fit L) (r : Nat) (sa : Option Addr) (sc : Nat) (ca : Option Addr) (cc : Nat) (w : World) (hm : LdM w L sa sc ca cc) (hE : chkL L = 0) (hH : hasE L r = 0) :
    Calls Try.prog 27 #[vL L sa sc ca cc, .int .i64 r] w (LaysRet (takV L r) 0 (hasE L r) w) := by
  have HM := hid hm; clear hm
  obtain ⟨hb0, hx0, hr0⟩ := two_new w #[.int .i64 L.cols, .slice sa L.starts.length sc, .slice ca L.cells.length cc] laysZero 44 48
  have HSZ : Hid (w.heap.size + 2 ≤ ((w.alloc (.cells #[.int .i64 L.cols, .slice sa L.starts.length sc, .slice ca L.cells.length cc] 44)).alloc (.cells laysZero 48)).heap.size) := hid (by simp)
  have hR := chkL_ok hE
  have e2 : takV L r = ⟨L.cols, L.starts.set r (-1), L.cells.map (takC r)⟩ := by unfold takV; rw [if_pos hH]; rfl
  have hgood : (r : Int) < L.starts.length ∧ 0 ≤ L.st r := by
    unfold hasE at hH
    rw [if_pos hE, Int.toNat_natCast] at hH
    by_cases q : 0 ≤ (r : Int) ∧ (r : Int) < L.starts.length ∧ 0 ≤ L.st r
    · exact q.2
    · rw [if_neg q] at hH; cases hH
  rw [hH, e2]
  obtain ⟨hr1, hs0⟩ := hgood
  have hr : r < L.starts.length := by omega
  have HC : Hid (∀ w, LdM w L sa sc ca cc → Calls Try.prog 37 #[vL L sa sc ca cc] w (RetB (.int .i64 0) w)) := hid fun w h => by
    have := rcheckL_any L hf sa sc ca cc w h
    rwa [hE] at this
  have hrows := hR.rows
  have hroom := hR.room
  have hR1 := fun w => in_any (r : Int) 0 ((L.starts.length : Int) - 1) w
  rw [show inB (r : Int) 0 ((L.starts.length : Int) - 1) = true from decide_eq_true (by omega)] at hR1
  have HR1 := hid hR1
  obtain ⟨bs, os, hsa, hlts, h5⟩ := HM.out.rs.at hr
  have hst' : L.starts.getD r (-1) = L.st r := rfl
  rw [hst'] at h5
  have H5 := hid (cell_later hb0 h5)
  have d1 : (L.st r == -1) = false := by rw [beq_eq_false_iff_ne]; omega
  subst hsa
  have HB0 := hid hb0
  have HX0 := hid hx0
  have HR0 := hid hr0
  obtain ⟨k0, k1, k2, _, _, _⟩ := box3 hx0
  clear hb0 hx0 hr0 hE hH hR e2 hR1 h5 hst' hlts
  generalize L.st r = s at *
  go_enter Try.func27, Try.ntmps27
  go_upto_region 7 with (first
    | (go_at_call 37; (with_reducible refine (HC.out _ (HM.out.below HB0.out)).mono ?_); rintro e w1 ⟨rfl, hb⟩; have HB := hid (HB0.out.step hb); have HSZ1 := hid (Nat.le_trans HSZ.out hb.size); have HR1' := hid (keepBox hb HR0.out); have HX1 := hid (keepBox hb HX0.out); obtain ⟨k0, k1, k2, _, _, _⟩ := box3 HX1.out; have h5 := cell_later hb H5.out; clear hb)
    | (go_at_call 53; (with_reducible refine (HR1.out _).mono ?_); rintro e w' ⟨rfl, rfl⟩))
  clear h5 d1 hs0
  obtain ⟨g2, hg2⟩ : ∃ g, g = w.heap.size := ⟨_, rfl⟩
  obtain ⟨g4, hg4⟩ : ∃ g, g = w.heap.size + 1 := ⟨_, rfl⟩
  rw [← hg2] at HX1 k0 k1 k2
  rw [← hg4] at HR1'
  rw [← hg2]
  try rw [hg2, ← hg4, ← hg2]
  have HG := hid (And.intro hg2 hg4)
  clear hg2 hg4
  have K := hid (And.intro k0 k1)
  have HS1 := hid (HM.out.rs.below HB.out)
  have T : Hid True := trivial
  clear k0 k1 k2
  go_cut [7] (fun s7 wx => TkS L w1 s7 wx)
  case first =>
    have hb := Below.refl w1.heap.size w1
    go_region_held_law (fun w' => w'.cell? ⟨g2, 0, none⟩ = some (.int .i64 L.cols) ∧ w'.cell? ⟨g2, 1, none⟩ = some (.slice (some ⟨bs, os, none⟩) L.starts.length sc))
      (first
        | (refine ⟨cell_later ?_ K.out.1, cell_later ?_ K.out.2⟩ <;> (repeat (first | with_reducible exact hb | with_reducible exact Below.refl _ _ | with_reducible refine bmore ?_ _ | with_reducible refine Below.drew ?_)); done)
        | (refine ⟨cell_later (Below.setCell (Below.setCell (Below.setCell ?_ ?_ _) ?_ _) ?_ _) K.out.1, cell_later (Below.setCell (Below.setCell (Below.setCell ?_ ?_ _) ?_ _) ?_ _) K.out.2⟩ <;> first | (simp; done) | (repeat (first | with_reducible exact hb | with_reducible exact Below.refl _ _ | with_reducible refine bmore ?_ _ | with_reducible refine Below.drew ?_)); done))
      ((refine step_append_ints _ rfl (.tmp 35) (.tmp 37) rfl w1.heap.size _ [] L.starts (by rfl) (.none (by first | exact Nat.le_refl _ | (simp; done)) (by simp only [heap_drew, heap_alloc_if, World.size_alloc] <;> simp)) _ _ L.starts.length rfl (by rfl) (HS1.out.below (by repeat (first | exact Below.refl _ _ | refine Below.drew ?_ | refine bmore ?_ _))) (by simp; omega) (by simp; try omega) ?_
        intro v1 w1x hown1 hg1 hat1
        have HGB := hid hg1
        have hb : Below w1.heap.size w1 w1x := Below.grown (by repeat (first | exact Below.refl _ _ | refine Below.drew ?_ | refine bmore ?_ _)) hg1 (by simp; try omega) (by intro q hq; simp [Value.ownBlock] at hq; omega)
        rw [List.nil_append] at hown1
        obtain ⟨a1, c1, gS, hv1, hcc, hgS, hrd, hbi, hnew⟩ := ownI_wr hown1
        subst hv1
        have HSP := hid (show SP w1.heap.size L.starts w1x a1 c1 gS from ⟨hcc, hgS, hbi, hnew⟩)
        (first
          | (have T := hid (box_kept (b := w1.heap.size + 1) (o := .cells #[.int .i64 0, .slice none 0 0, .slice none 0 0] 44 (0, 0)) HGB.out (two_new _ _ _ _ _).2.2 (fun h => Nat.succ_ne_self _ (Option.some.inj h))))
          | (have T := hid (box_kept (b := w1.heap.size) (o := .cells #[.int .i64 0, .slice none 0 0, .slice none 0 0] 44 (0, 0)) HGB.out (two_new _ _ _ _ _).2.1 (fun h => Nat.succ_ne_self _ (Option.some.inj h).symm)))
          | skip)
        (first | (have tt := box3 T.out; obtain ⟨t0, t1, t2, y0, y1, y2⟩ := tt) | skip)
        clear hown1 hg1 hat1 hcc hgS hrd hbi hnew))
    all_goals
      go_wp2_with fail
      go_meet
      first
        | exact tks_new hb HSP.out
        | exact tks_set hb HSP.out T.out (Nat.le_refl _)
        | exact tks_set hb HSP.out T.out (Nat.le_succ _)
  case rest =>
    obtain ⟨a1, c1, gS, g7, rfl, hX7, hB7, hg7, hS⟩ := hcut
    have hne : L.starts ≠ [] := by intro e; rw [e] at hr; simp at hr
    have hav := (hS.2.2.1 hne).1
    have hbi := (hS.2.2.1 hne).2
    have hgs : gS ≠ g7 := fun e => hbi.ne_box hX7 e.symm
    have HC1 := hid hS.1
    have HGS1 := hid hS.2.1
    subst hav
    obtain ⟨k0, k1, k2, _, _, _⟩ := box3 hX7
    have u1 := hbi.at hr
    have u2 := hbi.frozen r
    have nr : (r : Int) < (L.starts.length : Int) := by omega
    generalize L.starts[r] = x0 at u1
    have HX7 := hid hX7
    have HB7 := hid hB7
    have HBI := hid hbi
    have HGS := hid hgs
    have HG7 := hid hg7
    have hbx := hB7
    have HR4 := hid (keepBox hB7 HR1'.out)
    clear hbi hgs hX7 hB7 hg7 hS hne hbx
    obtain ⟨wq, hwq⟩ : ∃ wq, wq = wc := ⟨_, rfl⟩
    rw [← hwq] at k0 k1 k2 u1 u2 HX7 HB7 HBI HR4
    rw [← hwq]
    clear hwq
    go_upto_region 9 with fail
    have hbs : But gS wq (wq.setCell ⟨gS, r, none⟩ (.int .i64 (-1))) := (But.refl _ _).set _ _
    have hBIs := HBI.out.set hr (-1)
    have hB7s : Below w1.heap.size w1 (wq.setCell ⟨gS, r, none⟩ (.int .i64 (-1))) := HB7.out.setCell (p := ⟨gS, r, none⟩) HGS1.out _
    have hX7s := (hbs.block g7 (lt_of_heap HX7.out) (fun e => HGS.out e.symm)).trans HX7.out
    have hgg : g4 < w1.heap.size := by have := HG.out.2; have := HSZ1.out; omega
    have hX4s := (hbs.block g4 (lt_of_heap HR4.out) (by have := HGS1.out; omega)).trans HR4.out
    generalize wq.setCell ⟨gS, r, none⟩ (.int .i64 (-1)) = ws at *
    have HBI := hid hBIs
    have HB7 := hid hB7s
    have HX7 := hid hX7s
    have HGG := hid hgg
    have HX1g := hid (lt_of_heap HX1.out)
    clear hbs hBIs hB7s hX7s hX4s hgg u1 u2 k0 k1 k2
    go_wp2_with fail
    go_loopg [8] L.cells.length (fun gh s8 wr => ∃ k : Nat, k ≤ L.cells.length ∧ gh = L.cells.length - k ∧ s8 = .int .i64 k ∧ Hid (Tking L r w1 wr gS g7 c1 k))
    case atStart => exact ⟨0, Nat.zero_le _, rfl, rfl, hid ⟨_, HX7.out, OwnP.nil _ _ _, HBI.out, HB7.out⟩⟩
    case round =>
      obtain ⟨k, hk, rfl, rfl, HK⟩ := hrel
      obtain ⟨v, hX7, hown, hbi, hbw⟩ := HK.out
      have hX1 := keepBox hbw HX1.out
      obtain ⟨k0, k1, k2, _, _, _⟩ := box3 hX1
      by_cases hlt : k < L.cells.length
      · have n1 : (k : Int) < (L.cells.length : Int) := by omega
        obtain ⟨b, off, hca, hltb, h1, h2⟩ := (HM.out.rc.below (HB.out.step hbw)).at hlt
        have hsu := tk_succ (r := (r : Int)) hlt
        rw [← getD_in (d := (-1, 0)) hlt] at hsu
        generalize L.cells.getD k (-1, 0) = p at *
        obtain ⟨x, y⟩ := p
        have HSU := hid hsu
        simp only at h1 h2
        subst hca
        have HX7 := hid hX7
        have HOWN := hid hown
        have HBI := hid hbi
        have HBW := hid hbw
        have HXX := hid hX1
        clear hX7 hown hbi hbw hsu hX1
        go_upto_region 13 with fail
        have hb4 := bnew wr (.cells #[.int .i64 x, .int .i64 y] 99)
        have HX4 := hid (heapn wr (.cells #[.int .i64 x, .int .i64 y] 99) _ rfl)
        have HB4 := hid hb4
        clear h1 h2 k0 k1 k2
        generalize wr.alloc (.cells #[.int .i64 x, .int .i64 y] 99) = w4 at *
        obtain ⟨g9, hg9⟩ : ∃ g, g = wr.heap.size := ⟨_, rfl⟩
        rw [← hg9] at HX4
        rw [← hg9]
        have HG9 := hid (show wr.heap.size ≤ g9 by rw [hg9]; exact Nat.le_refl _)
        clear hg9 hb4
        obtain ⟨x0, y0, z0, z1⟩ := box2 HX4.out
        by_cases hxr : x = (r : Int)
        · have d1 : (x == (r : Int)) = true := by rw [beq_iff_eq]; exact hxr
          have HTK : Hid (takC (r : Int) (x, y) = (-1, 0)) := hid (by unfold takC; rw [if_pos hxr])
          clear hxr
          go_upto_region 15 with fail
          have HX9 : Hid (((w4.setCell ⟨g9, 0, none⟩ (.int .i64 (-1))).setCell ⟨g9, 1, none⟩ (.int .i64 0)).heap[g9]? = some (.cells #[.int .i64 (-1), .int .i64 0] 99 (0, 0))) := hid (by
            have h0 : (w4.setCell ⟨g9, 0, none⟩ (.int .i64 (-1))).heap[g9]? = _ := heap_setCell_same _ _ _ _ _ _ HX4.out
            exact (heap_setCell_same _ _ _ _ _ _ h0).trans rfl)
          have HB9 : Hid (Below wr.heap.size wr ((w4.setCell ⟨g9, 0, none⟩ (.int .i64 (-1))).setCell ⟨g9, 1, none⟩ (.int .i64 0))) := hid ((HB4.out.setCell (p := ⟨g9, 0, none⟩) HG9.out _).setCell (p := ⟨g9, 1, none⟩) HG9.out _)
          clear x0 y0 z0 z1 d1 HX4
          generalize (w4.setCell ⟨g9, 0, none⟩ (.int .i64 (-1))).setCell ⟨g9, 1, none⟩ (.int .i64 0) = w5 at *
          have hX7 := keepBox HB9.out HX7.out
          obtain ⟨j0, j1, j2, f0, f1, f2⟩ := box3 hX7
          obtain ⟨x0, y0, _, _⟩ := box2 HX9.out
          have HX75 := hid hX7
          have hsz := (HBW.out.step HB9.out).size
          have hll : ((L.cells.take k).map (takC (r : Int))).length = k := by rw [List.length_map, List.length_take]; omega
          have HLL := hid hll
          clear hX7 hll
          go_wp2_with (at_builtin; refine wpList_append_pairs pt42 _ rfl _ _ rfl w1.heap.size v ((L.cells.take k).map (takC (r : Int))) [((-1), 0)] rfl (own_below HOWN.out (HB9.out.step (bnew _ _))) (some ⟨w5.heap.size, 0, none⟩) 1 rfl (rdp_one _ _ _ _) (by rw [HLL.out]; simp; omega) (by simp; omega) ?_; intro v' wz hown' hgrow hnil; obtain ⟨av, cv, hv'⟩ := own_slice hown'; subst hv'; have HO := hid hown'; have HBB := hid (show Below w1.heap.size (w5.alloc (.cells #[.int .i64 (-1), .int .i64 0] 99)) wz from Below.grown (Below.refl _ _) hgrow (by simp; omega) (own_ge HOWN.out)); have HG3 := hid hgrow; have HXZ := hid (keep_grown hgrow (keepBox (bnew _ _) HX75.out) (own_type (own_below HOWN.out (HB9.out.step (bnew _ _)))) (by decide)); have HBZ := hid ((HBI.out.below (HB9.out.step (bnew _ _))).grown hgrow (own_type (own_below HOWN.out (HB9.out.step (bnew _ _)))) (by decide)); obtain ⟨i0, i1, i2, y0, y1, y2⟩ := box3 HXZ.out; clear hown' hgrow hnil)
          go_roundg (L.cells.length - (k + 1))
          case measure => omega
          case rel =>
            refine ⟨k + 1, by omega, rfl, by go_num, hid ⟨_, (heap_setCell_same _ _ _ _ _ _ HXZ.out).trans rfl, ?_, ?_, ?_⟩⟩
            · rw [HSU.out, HTK.out]
              have hlen : ((L.cells.take k).map (takC (r : Int)) ++ [((-1), 0)]).length = k + 1 := by rw [List.length_append, HLL.out]; rfl
              have hq := HO.out
              rw [hlen] at hq
              exact own_but44 hq HXZ.out _ _
            · exact HBZ.out.but ((But.refl _ _).set _ _) (fun e => HBZ.out.ne_box HXZ.out e.symm)
            · exact (((HBW.out.step HB9.out).step (bnew _ _)).trans HBB.out).setCell (p := ⟨g7, 2, none⟩) HG7.out _
        · have d1 : (x == (r : Int)) = false := by rw [beq_eq_false_iff_ne]; exact hxr
          have HTK : Hid (takC (r : Int) (x, y) = (x, y)) := hid (by unfold takC; rw [if_neg hxr])
          clear hxr
          go_upto_region 15 with fail
          have HX9 := HX4
          have HB9 := HB4
          clear x0 y0 z0 z1 d1 HX4
          obtain ⟨w5, hw5⟩ : ∃ w5, w5 = w4 := ⟨_, rfl⟩
          rw [← hw5] at HX9 HB9
          rw [← hw5]
          clear hw5
          have hX7 := keepBox HB9.out HX7.out
          obtain ⟨j0, j1, j2, f0, f1, f2⟩ := box3 hX7
          obtain ⟨x0, y0, _, _⟩ := box2 HX9.out
          have HX75 := hid hX7
          have hsz := (HBW.out.step HB9.out).size
          have hll : ((L.cells.take k).map (takC (r : Int))).length = k := by rw [List.length_map, List.length_take]; omega
          have HLL := hid hll
          clear hX7 hll
          go_wp2_with (at_builtin; refine wpList_append_pairs pt42 _ rfl _ _ rfl w1.heap.size v ((L.cells.take k).map (takC (r : Int))) [(x, y)] rfl (own_below HOWN.out (HB9.out.step (bnew _ _))) (some ⟨w5.heap.size, 0, none⟩) 1 rfl (rdp_one _ _ _ _) (by rw [HLL.out]; simp; omega) (by simp; omega) ?_; intro v' wz hown' hgrow hnil; obtain ⟨av, cv, hv'⟩ := own_slice hown'; subst hv'; have HO := hid hown'; have HBB := hid (show Below w1.heap.size (w5.alloc (.cells #[.int .i64 x, .int .i64 y] 99)) wz from Below.grown (Below.refl _ _) hgrow (by simp; omega) (own_ge HOWN.out)); have HG3 := hid hgrow; have HXZ := hid (keep_grown hgrow (keepBox (bnew _ _) HX75.out) (own_type (own_below HOWN.out (HB9.out.step (bnew _ _)))) (by decide)); have HBZ := hid ((HBI.out.below (HB9.out.step (bnew _ _))).grown hgrow (own_type (own_below HOWN.out (HB9.out.step (bnew _ _)))) (by decide)); obtain ⟨i0, i1, i2, y0, y1, y2⟩ := box3 HXZ.out; clear hown' hgrow hnil)
          go_roundg (L.cells.length - (k + 1))
          case measure => omega
          case rel =>
            refine ⟨k + 1, by omega, rfl, by go_num, hid ⟨_, (heap_setCell_same _ _ _ _ _ _ HXZ.out).trans rfl, ?_, ?_, ?_⟩⟩
            · rw [HSU.out, HTK.out]
              have hlen : ((L.cells.take k).map (takC (r : Int)) ++ [(x, y)]).length = k + 1 := by rw [List.length_append, HLL.out]; rfl
              have hq := HO.out
              rw [hlen] at hq
              exact own_but44 hq HXZ.out _ _
            · exact HBZ.out.but ((But.refl _ _).set _ _) (fun e => HBZ.out.ne_box HXZ.out e.symm)
            · exact (((HBW.out.step HB9.out).step (bnew _ _)).trans HBB.out).setCell (p := ⟨g7, 2, none⟩) HG7.out _
      · have hkl : k = L.cells.length := by omega
        subst hkl
        have HX4 := hid (keepBox hbw HR1'.out)
        obtain ⟨a9, c9, g9, rfl, hcc9, _, hrc, -, hnew⟩ := ownP_wr hown
        have hll : ((L.cells.take L.cells.length).map (takC (r : Int))).length = L.cells.length := by rw [List.length_map, List.length_take]; omega
        have hal : (L.cells.take L.cells.length).map (takC (r : Int)) = L.cells.map (takC r) := by rw [List.take_of_length_le (Nat.le_refl _)]
        rw [hll] at hX7 hcc9
        rw [hal] at hrc
        have HRC := hid hrc
        have HNEW := hid hnew
        have HBI := hid hbi
        have HBW := hid hbw
        have HCC9 := hid hcc9
        obtain ⟨j0, j1, j2, _, _, _⟩ := box3 hX7
        obtain ⟨r0, r1, r2, r3, r4, z0, z1, z2, z3, z4⟩ := box5 HX4.out
        clear hX7 hcc9 hrc hnew hbi hbw hown hll hal hX1
        go_wp2
        refine bodyPost_ret (v := .agg #[.int .i64 L.cols, .slice (some ⟨gS, 0, none⟩) L.starts.length c1, .slice a9 L.cells.length c9, .int .i64 0, .int .i64 0]) (by simp [results, Try.results27, go_sem, r0, r1, r2, r3, r4]) rfl ?_
        have hbW : But g4 wr (((((wr.setCell ⟨g4, 0, none⟩ (.int .i64 L.cols)).setCell ⟨g4, 1, none⟩ (.slice (some ⟨gS, 0, none⟩) L.starts.length c1)).setCell ⟨g4, 2, none⟩ (.slice a9 L.cells.length c9)).setCell ⟨g4, 3, none⟩ (.int .i64 0)).setCell ⟨g4, 4, none⟩ (.int .i64 0)) := (((((But.refl _ _).set _ _).set _ _).set _ _).set _ _).set _ _
        have hg4 : w.heap.size ≤ g4 := by have := HG.out.2; omega
        have hg41 := HGG.out
        refine ⟨HB.out.trans ((HBW.out.mono HB.out.size).trans (hbW.below hg4 (Nat.le_trans HB.out.size HBW.out.size))), some ⟨gS, 0, none⟩, c1, a9, c9, ?_, ?_⟩
        · rw [List.length_set, List.length_map]
        · refine ⟨(HBI.out.but hbW (by have := HGS1.out; omega)).rd, HRC.out.but hbW fun b off e => ?_, by show (L.starts.set r (-1)).length ≤ c1; rw [List.length_set]; exact HC1.out, by show (L.cells.map (takC r)).length ≤ c9; rw [List.length_map]; exact HCC9.out⟩
          have := HNEW.out b off e
          omega

theorem rTake_any (L : Ld) (hf : Fit L) (r : Int) (sa : Option Addr) (sc : Nat) (ca : Option Addr) (cc : Nat) (w : World) (hm : LdM w L sa sc ca cc) :
    Calls Try.prog 27 #[vL L sa sc ca cc, .int .i64 r] w (LaysRet (takV L r) 0 (hasE L r) w) := by
  by_cases hE : chkL L = 0
  · by_cases hH : hasE L r = 0
    · have h0 : 0 ≤ r := by
        unfold hasE at hH
        rw [if_pos hE] at hH
        by_cases q : 0 ≤ r ∧ r < L.starts.length ∧ 0 ≤ L.st r.toNat
        · exact q.1
        · rw [if_neg q] at hH; cases hH
      obtain ⟨r, rfl⟩ : ∃ k : Nat, r = (k : Int) := ⟨r.toNat, by omega⟩
      exact rtake_ok L hf r sa sc ca cc w hm hE hH
    · exact rtake_none L hf r sa sc ca cc w hm hE hH
  · exact rtake_bad L hf r sa sc ca cc w hm hE
end Go.Proofs.Ytliajnflmddnoaa
