/- The walk of TableByRows. -/
import Derived.Test.YtliajnflmddnoaaG25
import Derived.Test.YtliajnflmddnoaaH1
import Derived.Test.YtliajnflmddnoaaQ5
import Derived.Test.YtliajnflmddnoaaP8
import Derived.Lib.QuietBelow
namespace Go.Proofs.Ytliajnflmddnoaa
open Go.RowKit

theorem RdI.set_new {w : World} {a : Option Addr} {l : List Int} {g : Nat} (h : RdI w a l) (hn : NewA (g + 1) a) (o : Nat) (v : Value) : RdI (w.setCell ⟨g, o, none⟩ v) a l :=
  h.but ((But.refl g w).set o v) fun b off e => by have := hn b off e; omega
theorem RdP.set_new {w : World} {a : Option Addr} {l : List (Int × Int)} {g : Nat} (h : RdP w a l) (hn : NewA (g + 1) a) (o : Nat) (v : Value) : RdP (w.setCell ⟨g, o, none⟩ v) a l :=
  h.but ((But.refl g w).set o v) fun b off e => by have := hn b off e; omega
theorem LdM.set_new {w : World} {L : Ld} {sa : Option Addr} {sc : Nat} {ca : Option Addr} {cc : Nat} {g : Nat} (h : LdM w L sa sc ca cc) (hs : NewA (g + 1) sa) (hc : NewA (g + 1) ca) (o : Nat) (v : Value) : LdM (w.setCell ⟨g, o, none⟩ v) L sa sc ca cc :=
  ⟨h.rs.set_new hs o v, h.rc.set_new hc o v, h.ls, h.lc⟩
theorem set3 {w : World} {g : Nat} {x y z : Value} {T : TypeId} (h : w.heap[g]? = some (.cells #[x, y, z] T (0, 0))) (x' y' z' : Value) : (((w.setCell ⟨g, 0, none⟩ x').setCell ⟨g, 1, none⟩ y').setCell ⟨g, 2, none⟩ z').heap[g]? = some (.cells #[x', y', z'] T (0, 0)) :=
  (heap_setCell_same _ _ _ _ _ _ ((heap_setCell_same _ _ _ _ _ _ ((heap_setCell_same _ _ _ _ _ _ h).trans rfl)).trans rfl)).trans rfl
theorem NewA.le {a b : Nat} {x : Option Addr} (h : NewA b x) (hab : a ≤ b) : NewA a x := fun p off e => Nat.le_trans hab (h p off e)
/-- What the statement with Insert leaves: the rows with a further one, in a block of its own. -/
def NextR (N : Ld) (i : Nat) (w : World) (s8 s9 s10 : Value) (wx : World) : Prop :=
  ∃ g8 sa sc ca cc, s8 = .pointer (some ⟨g8, 0, none⟩) ∧ s9 = .int .i64 i ∧ s10 = .int .i64 0 ∧ wx.heap[g8]? = some (.cells #[.int .i64 N.cols, .slice sa N.starts.length sc, .slice ca N.cells.length cc] 44 (0, 0)) ∧ LdM wx N sa sc ca cc ∧ NewA w.heap.size sa ∧ NewA w.heap.size ca ∧ w.heap.size ≤ g8 ∧ Below w.heap.size w wx
theorem next_a {N : Ld} {i : Nat} {w w5 : World} {sa : Option Addr} {sc : Nat} {ca : Option Addr} {cc : Nat} (hb : Below w.heap.size w w5) (h : LdM w5 N sa sc ca cc) (h1 : NewA w.heap.size sa) (h2 : NewA w.heap.size ca) :
    NextR N i w (.pointer (some ⟨w5.heap.size, 0, none⟩)) (.int .i64 i) (.int .i64 0) (w5.alloc (.cells #[.int .i64 N.cols, .slice sa N.starts.length sc, .slice ca N.cells.length cc] 44)) :=
  ⟨w5.heap.size, sa, sc, ca, cc, rfl, rfl, rfl, heapn _ _ _ rfl, h.below (bnew _ _), h1, h2, hb.size, hb.step (bnew _ _)⟩
theorem next_b {N : Ld} {i : Nat} {w w5 : World} {sa : Option Addr} {sc : Nat} {ca : Option Addr} {cc : Nat} (hb : Below (w.alloc (.cells #[.int .i64 0, .slice none 0 0, .slice none 0 0] 44)).drew.heap.size (w.alloc (.cells #[.int .i64 0, .slice none 0 0, .slice none 0 0] 44)).drew w5) (h : LdM w5 N sa sc ca cc) (h1' : NewA (w.alloc (.cells #[.int .i64 0, .slice none 0 0, .slice none 0 0] 44)).drew.heap.size sa) (h2' : NewA (w.alloc (.cells #[.int .i64 0, .slice none 0 0, .slice none 0 0] 44)).drew.heap.size ca) :
    NextR N i w (.pointer (some ⟨w.heap.size, 0, none⟩)) (.int .i64 i) (.int .i64 0) (((w5.setCell ⟨w.heap.size, 0, none⟩ (.int .i64 N.cols)).setCell ⟨w.heap.size, 1, none⟩ (.slice sa N.starts.length sc)).setCell ⟨w.heap.size, 2, none⟩ (.slice ca N.cells.length cc)) := by
  have h1 : NewA (w.heap.size + 1) sa := h1'.le (by simp)
  have h2 : NewA (w.heap.size + 1) ca := h2'.le (by simp)
  refine ⟨w.heap.size, sa, sc, ca, cc, rfl, rfl, rfl, set3 (keepBox hb (heapn w _ _ rfl)) _ _ _, ((h.set_new h1 h2 _ _).set_new h1 h2 _ _).set_new h1 h2 _ _, h1.le (by omega), h2.le (by omega), Nat.le_refl _, ?_⟩
  exact (((((bnew _ _).drew).step hb).setCell (Nat.le_refl _) _).setCell (Nat.le_refl _) _).setCell (Nat.le_refl _) _
/-- The rows that are inserted so far, in memory. -/
def ByR (m : List (List Int)) (w4 : World) (g6 : Nat) (i : Nat) (wr : World) : Prop :=
  ∃ N sa sc ca cc, BR m i N ∧ wr.heap[g6]? = some (.cells #[.int .i64 N.cols, .slice sa N.starts.length sc, .slice ca N.cells.length cc] 44 (0, 0)) ∧ LdM wr N sa sc ca cc ∧ Below w4.heap.size w4 wr
theorem byr_next {m : List (List Int)} {w4 wd : World} {g6 i : Nat} {N : Ld} {sa : Option Addr} {sc : Nat} {ca : Option Addr} {cc : Nat} {x y z : Value} (hN : BR m (i + 1) N) (h6 : wd.heap[g6]? = some (.cells #[x, y, z] 44 (0, 0))) (h : LdM wd N sa sc ca cc) (h1 : NewA (g6 + 1) sa) (h2 : NewA (g6 + 1) ca) (hb : Below w4.heap.size w4 wd) (hg : w4.heap.size ≤ g6) :
    ByR m w4 g6 (i + 1) (((wd.setCell ⟨g6, 0, none⟩ (.int .i64 N.cols)).setCell ⟨g6, 1, none⟩ (.slice sa N.starts.length sc)).setCell ⟨g6, 2, none⟩ (.slice ca N.cells.length cc)) :=
  ⟨N, sa, sc, ca, cc, hN, set3 h6 _ _ _, ((h.set_new h1 h2 _ _).set_new h1 h2 _ _).set_new h1 h2 _ _, ((hb.setCell hg _).setCell hg _).setCell hg _⟩
theorem byr_start {m : List (List Int)} (hm : RightM m) (w : World) : ByR m w w.heap.size 0 (w.alloc (.cells #[.int .i64 (colsN m), .slice none 0 0, .slice none 0 0] 44)) :=
  ⟨⟨colsN m, [], []⟩, none, 0, none, 0, BR.start hm, heapn _ _ _ rfl, ⟨fun _i hi => absurd hi (Nat.not_lt_zero _), RdP.nil _ _, Nat.le_refl _, Nat.le_refl _⟩, bnew _ _⟩
theorem RightL.fit {L : Ld} (h : RightL L) : Fit L := ⟨by have := h.rows; omega, by have := h.room; omega⟩

set_option maxRecDepth 100000 in
set_option maxHeartbeats 8000000 in
theorem byrows_ok (m : List (List Int)) (a : Option Addr) (cap : Nat) (w : World) (hl : RdM w a m) (hs : smallB m = true) (hE : chkM m = 0) :
    Calls Try.prog 8 #[.slice a m.length cap] w (RetB (.bool true) w) := by
  have HL := hid hl; clear hl
  have hm := chkM_ok hE
  have HM := hid hm
  obtain ⟨h12, h40⟩ := small_in hs hm
  obtain ⟨hsl, hcl, hfit⟩ := lay_fit hm h12
  have HSL := hid hsl
  have hrl : ∀ r, r ∈ m → r.length ≤ 1000000 := fun r hr => by
    obtain ⟨i, hi, rfl⟩ := List.getElem_of_mem hr
    rw [hm.len i hi]
    omega
  have HSM := hid (fun (w : World) (h : RdM w a m) => (by
    have := small_any m a cap w h (by omega) (fun r hr => by have := hrl r hr; omega)
    rw [hs] at this; exact this : Calls Try.prog 13 #[.slice a m.length cap] w (RetS (.bool true) w)))
  have HCK := hid (fun (w : World) (h : RdM w a m) => (by have := check_any m a cap w h (by omega) hrl; rw [hE] at this; exact this : Calls Try.prog 28 #[.slice a m.length cap] w (RetS (.int .i64 0) w)))
  have HLY := hid (fun (w : World) (h : RdM w a m) => (by
    have := Lay_any m a cap w h (fun _ => by omega) (by omega) hrl
    rw [hE, show layV m = layR m from if_pos hE] at this
    exact this : Calls Try.prog 20 #[.slice a m.length cap] w (LdRet2 (layR m) 0 w)))
  have HOR := hid (fun (w : World) (h : RdM w a m) => rOrder_any m a cap w hm h)
  have HOL := hid (order_length hm)
  obtain ⟨b0, o0, ha, hlt0, ai0, ci0, hc0⟩ := HL.out.head hm.some'
  subst ha
  have HC0 := hid hc0
  have n0 : (0 : Int) < (m.length : Int) := by have := hm.some'; omega
  have hd0 : ((m.length : Int) != (m.length : Int)) = false := by simp
  clear hs hE hm hsl hcl hfit hrl hc0
  obtain ⟨cn, hcn⟩ : ∃ k, k = (layR m).cells.length := ⟨_, rfl⟩
  have HCN := hid hcn
  clear hcn
  go_enter Try.func8, Try.ntmps8
  go_upto_region 5 with (first
    | (go_at_call 13; refine (HSM.out _ HL.out).mono ?_; rintro e w1 ⟨rfl, rfl⟩)
    | (go_at_call 28; refine (HCK.out _ HL.out).mono ?_; rintro e w1 ⟨rfl, rfl⟩)
    | (go_at_call 20; refine (HLY.out _ HL.out).mono ?_; rintro e w1 ⟨hb, sa, sc, ca, cc, rfl, hld⟩; rw [show vL (layR m) sa sc ca cc = .agg #[.int .i64 (colsN m), .slice sa m.length sc, .slice ca cn cc] from by unfold vL; rw [HSL.out, ← HCN.out]; rfl]; have HB := hid (hb.step (bnew w1 (.cells #[.int .i64 (colsN m), .slice sa m.length sc, .slice ca cn cc] 44))); have X3 := hid (heapn w1 (.cells #[.int .i64 (colsN m), .slice sa m.length sc, .slice ca cn cc] 44) _ rfl); have M3 := hid (hld.below (bnew w1 (.cells #[.int .i64 (colsN m), .slice sa m.length sc, .slice ca cn cc] 44))); clear hb hld)
    | (go_at_call 32; ((with_reducible refine (HOR.out _ (HL.out.below HB.out)).mono ?_); rintro e w2 ⟨hb, v, rfl, ho⟩); obtain ⟨oa, oc, rfl, hro⟩ := ho.rd; rw [asI_length, HOL.out]; clear ho; replace HB := hid (HB.out.step hb); replace X3 := hid (keepBox hb X3.out); replace M3 := hid (M3.out.below hb); have RO := hid hro; clear hb hro))
  have q0 := cell_later HB.out HC0.out
  obtain ⟨k0, k1, k2, -, -, -⟩ := box3 X3.out
  have a0 : ∀ o, (w2.alloc o).cell? ⟨w1.heap.size, 1, none⟩ = some (.slice sa m.length sc) := fun o => cell_later (bnew _ _) k1
  generalize w1.heap.size = g3 at *
  go_upto_region 8 with fail
  clear a0 q0 k0 k1 k2 hd0
  obtain ⟨g6, hg6⟩ : ∃ g, g = w2.heap.size := ⟨_, rfl⟩
  have BS := byr_start HM.out w2
  rw [← hg6] at BS
  rw [← hg6]
  have HBS := hid BS
  have HG6 := hid hg6
  clear BS hg6
  go_wp2_with fail
  go_loopg [7] m.length (fun gh s7 wr => ∃ i : Nat, i ≤ m.length ∧ gh = m.length - i ∧ s7 = .int .i64 i ∧ Hid (ByR m w2 g6 i wr))
  case atStart => exact ⟨0, Nat.zero_le _, rfl, rfl, HBS⟩
  case round =>
    obtain ⟨i, hi, rfl, rfl, HK⟩ := hrel
    obtain ⟨N, sn, cn', an, cd, hbr, hX, hM, hB⟩ := HK.out
    have HBR := hid hbr
    have HX6 := hid hX
    have HM6 := hid hM
    have HB6 := hid hB
    clear hbr hX hM hB HK
    by_cases hlt : i < m.length
    · have ni : (i : Int) < (m.length : Int) := by omega
      obtain ⟨s1, s2, s3, s4⟩ := HBR.out.step HM.out hlt
      have ho := (lay_start HM.out hlt).1
      have hsl := order_length HM.out
      obtain ⟨bo, oo, hao, _, hco⟩ := RO.out.at (i := i) (by rw [asI_length]; omega)
      have hgd : (asI (orderL m)).getD i (-1) = ((orderL m).getD i 0 : Nat) := by
        rw [getD_in (by rw [asI_length]; omega)]
        exact asI_at _
      rw [hgd] at hco
      obtain ⟨o, hoe⟩ : ∃ o, o = (orderL m).getD i 0 := ⟨_, rfl⟩
      rw [← hoe] at s1 s2 s3 s4 ho hco
      have no : (o : Int) < (m.length : Int) := by omega
      obtain ⟨br, orr, har, hlr, ai, ci, hcr, hrr⟩ := HL.out.row ho
      cases har
      have hrl2 := (HM.out.row ho).1
      subst hao
      have q1 := cell_later HB6.out hco
      obtain ⟨k0, k1, k2, -, -, -⟩ := box3 HX6.out
      obtain ⟨row, hrow⟩ : ∃ row, row = m.getD o [] := ⟨_, rfl⟩
      rw [← hrow] at s1 s2 s3 s4 hcr hrr hrl2
      have q2 := cell_later (HB.out.step HB6.out) hcr
      have HRL := hid hrl2
      clear hoe hgd hsl hco hcr hrow hrl2
      have HIN := hid (fun (w : World) (h : LdM w N sn cn' an cd) (h' : RdI w ai row) => (by
        have hr := HBR.out.right
        have := insert_new N hr.fit row ai ci sn cn' an cd w h h' (by rw [HRL.out]; omega) hr.chk (by rw [HRL.out, HBR.out.cols]) (List.all_eq_true.2 (insE_ok s1).2.2.1) (insE_ok s1).2.2.2.1 (by have := (insE_ok s1).2.2.2.2; omega)
        rw [s1, s2] at this
        exact this : Calls Try.prog 24 #[vL N sn cn' an cd, .slice ai row.length ci] w (LdRet3N (insV N row) i 0 w)))
      go_upto_region 11 with fail
      have K := hid (And.intro k0 (And.intro k1 (And.intro k2 (And.intro q1 q2))))
      have HRR := hid (hrr.below (HB.out.step HB6.out))
      clear k0 k1 k2 q1 q2 hrr
      go_cut [8, 9, 10] (fun s8 s9 s10 wx => Hid (NextR (insV N row) i wr s8 s9 s10 wx))
      case first =>
        have hb := bdrew wr
        have hz : Below wr.heap.size wr (wr.alloc (.cells #[.int .i64 0, .slice none 0 0, .slice none 0 0] 44)).drew := (bnew _ _).drew
        go_region_held3 (fun w' => w'.cell? ⟨g6, 0, none⟩ = some (.int .i64 N.cols) ∧ w'.cell? ⟨g6, 1, none⟩ = some (.slice sn N.starts.length cn') ∧ w'.cell? ⟨g6, 2, none⟩ = some (.slice an N.cells.length cd) ∧ w'.cell? ⟨bo, oo + i, none⟩ = some (.int .i64 o) ∧ w'.cell? ⟨b0, o0 + o, none⟩ = some (.slice ai row.length ci)) (first | exact K.out | exact ⟨cell_later hb K.out.1, cell_later hb K.out.2.1, cell_later hb K.out.2.2.1, cell_later hb K.out.2.2.2.1, cell_later hb K.out.2.2.2.2⟩ | exact ⟨cell_later (by repeat (first | exact hb | exact Below.refl _ _ | refine bmore ?_ _ | refine Below.setCell ?_ (by simp <;> omega) _ | refine Below.drew ?_)) K.out.1, cell_later (by repeat (first | exact hb | exact Below.refl _ _ | refine bmore ?_ _ | refine Below.setCell ?_ (by simp <;> omega) _ | refine Below.drew ?_)) K.out.2.1, cell_later (by repeat (first | exact hb | exact Below.refl _ _ | refine bmore ?_ _ | refine Below.setCell ?_ (by simp <;> omega) _ | refine Below.drew ?_)) K.out.2.2.1, cell_later (by repeat (first | exact hb | exact Below.refl _ _ | refine bmore ?_ _ | refine Below.setCell ?_ (by simp <;> omega) _ | refine Below.drew ?_)) K.out.2.2.2.1, cell_later (by repeat (first | exact hb | exact Below.refl _ _ | refine bmore ?_ _ | refine Below.setCell ?_ (by simp <;> omega) _ | refine Below.drew ?_)) K.out.2.2.2.2⟩ | go_keep)
          (first
            | (go_at_call 24; (with_reducible refine (HIN.out _ (HM6.out.below hb) (HRR.out.below hb)).mono ?_); rintro e w5 ⟨hb5, sa1, sc1, ca1, cc1, rfl, hld, hn1, hn2⟩; have HLD := hid hld; have HN1 := hid hn1; have HN2 := hid hn2; have HB5 := hid hb5; have hb := hb.step hb5; clear hb5 hld hn1 hn2)
            | (go_at_call 24; (with_reducible refine (HIN.out _ (HM6.out.below hz) (HRR.out.below hz)).mono ?_); rintro e w5 ⟨hb5, sa1, sc1, ca1, cc1, rfl, hld, hn1, hn2⟩; have HLD := hid hld; have HN1 := hid hn1; have HN2 := hid hn2; have HB5 := hid hb5; have T := hid (keepBox (w := (wr.alloc (.cells #[.int .i64 0, .slice none 0 0, .slice none 0 0] 44)).drew) hb5 (heapn wr (.cells #[.int .i64 0, .slice none 0 0, .slice none 0 0] 44) _ rfl)); obtain ⟨t0, t1, t2, y0, y1, y2⟩ := box3 T.out; have hb := hz.step hb5; have hs9 := hb.size; clear hb5 hld hn1 hn2))
        all_goals
          go_wp2_with fail
          go_meet
          first
            | exact hid (next_a ((bdrew wr).step HB5.out) HLD.out HN1.out HN2.out)
            | exact hid (next_b HB5.out HLD.out HN1.out HN2.out)
      case rest =>
        obtain ⟨g8, sa1, sc1, ca1, cc1, rfl, rfl, rfl, hx8, hld, hn1, hn2, hg8, hb8⟩ := hcut.out
        have X8 := hid hx8
        have HLD := hid hld
        have HN1 := hid hn1
        have HN2 := hid hn2
        have hl1 := s4.len
        obtain ⟨bs, os, hsa, _, q3⟩ := hld.rs.at (i := i) (by omega)
        rw [s3] at q3
        obtain ⟨bt, ot, hta, _, q4⟩ := M3.out.rs.at (i := o) (by rw [HSL.out]; exact ho)
        have e4 : (layR m).starts.getD o (-1) = (layR m).st o := rfl
        rw [e4] at q4
        subst hsa
        subst hta
        have HB7 := hid (HB6.out.step hb8)
        have q1 := cell_later hb8 K.out.2.2.2.1
        have q4 := cell_later HB7.out q4
        obtain ⟨k0, k1, k2, -, -, -⟩ := box3 (keepBox HB7.out X3.out)
        obtain ⟨p0, p1, p2, -, -, -⟩ := box3 X8.out
        have nl : (i : Int) < ((insV N row).starts.length : Int) := by omega
        have f1 : ((i : Int) != (i : Int)) = false := by simp
        have f2 : ((layR m).st o != (layR m).st o) = false := by simp
        have HL1 := hid hl1
        have HS4 := hid s4
        generalize (layR m).st o = so at *
        clear hcut hx8 hld hn1 hn2 e4 s1 s2 s3 s4 hl1
        go_upto_region 12 with fail
        go_quiet (fail)
        have HBD := hid (bdrewN (Below.refl wc.heap.size wc) nq)
        generalize wc.drewN nq = wd at *
        have hw6 := keepBox (hb8.step HBD.out) HX6.out
        have HX6' := hid hw6
        have X8' := hid (keepBox HBD.out X8.out)
        obtain ⟨r0, r1, r2, z0, z1, z2⟩ := box3 hw6
        clear p0 p1 p2 k0 k1 k2 q1 q3 q4 hw6
        obtain ⟨p0, p1, p2, -, -, -⟩ := box3 X8'.out
        have HSZ6 := hid (show g6 + 1 ≤ wr.heap.size from lt_of_heap HX6.out)
        have HL6 := hid (HLD.out.below HBD.out)
        have HB8 := hid (HB7.out.step HBD.out)
        go_wp2_with fail
        go_roundg (m.length - (i + 1))
        case measure => omega
        case rel => exact ⟨i + 1, by omega, rfl, by go_num, hid (byr_next HS4.out HX6'.out HL6.out (HN1.out.le HSZ6.out) (HN2.out.le HSZ6.out) HB8.out (Nat.le_of_eq HG6.out.symm))⟩
    · obtain rfl : i = m.length := by omega
      have hcl := HBR.out.end HM.out
      rw [← HCN.out] at hcl
      have HB7 := hid (HB.out.step HB6.out)
      have X3' := hid (keepBox HB6.out X3.out)
      have hd : ((cn : Int) == (cn : Int)) = true := by simp
      rw [hcl] at HX6
      clear hlt hcl
      go_wp2_with (go_at_call 14; (with_reducible refine (sanity_any _).mono ?_); rintro e w7 ⟨rfl, hb⟩; replace HB7 := hid (HB7.out.step hb); obtain ⟨k0, k1, k2, -, -, -⟩ := box3 (keepBox hb X3'.out); obtain ⟨p0, p1, p2, -, -, -⟩ := box3 (keepBox hb HX6.out); clear hb)
      go_ret
      exact ⟨rfl, HB7.out⟩
set_option maxRecDepth 100000 in
set_option maxHeartbeats 2000000 in
theorem byrows_any (m : List (List Int)) (a : Option Addr) (cap : Nat) (w : World) (hl : RdM w a m) (hlen : m.length ≤ 9223372036854775807) (hrl : ∀ r, r ∈ m → r.length ≤ 9223372036854775807) :
    Calls Try.prog 8 #[.slice a m.length cap] w (RetB (.bool true) w) := by
  have HSM := hid (small_any m a cap w hl hlen hrl)
  cases hs : smallB m with
  | false =>
    rw [hs] at HSM
    clear hl hrl hs
    go_enter Try.func8, Try.ntmps8
    go_wp2_with (first
      | (go_at_call 13; refine HSM.out.mono ?_; rintro e w1 ⟨rfl, rfl⟩)
      | (go_at_call 14; refine (sanity_any _).mono ?_; rintro e w1 ⟨rfl, hb⟩; have HB := hid hb; clear hb))
    go_ret
    exact ⟨rfl, HB.out⟩
  | true =>
    by_cases hE : chkM m = 0
    · exact byrows_ok m a cap w hl hs hE
    · rw [hs] at HSM
      obtain ⟨q1, q2⟩ := small_len hs
      have HCK := hid (check_any m a cap w hl (by omega) (fun r hr => by have := q2 r hr; omega))
      have hne : (chkM m == 0) = false := by rw [beq_eq_false_iff_ne]; exact hE
      have hne2 : (chkM m != 0) = true := by rw [bne, hne]; rfl
      clear hl hrl hs hE q2
      go_enter Try.func8, Try.ntmps8
      go_wp2_with (first
        | (go_at_call 13; refine HSM.out.mono ?_; rintro e w1 ⟨rfl, rfl⟩)
        | (go_at_call 28; refine HCK.out.mono ?_; rintro e w1 ⟨rfl, rfl⟩)
        | (go_at_call 14; refine (sanity_any _).mono ?_; rintro e w1 ⟨rfl, hb⟩; have HB := hid hb; clear hb))
      go_ret
      exact ⟨rfl, HB.out⟩
end Go.Proofs.Ytliajnflmddnoaa
