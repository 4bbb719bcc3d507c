/- The contract of Lay of package table. -/
import Derived.Test.YtecpkjhfbmchgaaG18
namespace Go.Proofs.Ytecpkjhfbmchgaa
open Go.RowKit

theorem layU_prefix {m : List (List Int)} (hm : RightM m) {j : Nat} (_hj : j ≤ m.length) : LI m ((orderL m).take j) (layU m ((orderL m).take j)).1 (layU m ((orderL m).take j)).2 :=
  layU_inv hm ((bef_nodup (order_pair m)).sublist (List.take_sublist _ _)) fun _i hi => (order_mem hm).1 (List.mem_of_mem_take hi)
theorem LI.good {m : List (List Int)} {l : List Nat} {S : List Int} {C : List (Int × Int)} (h : LI m l S C) : Good C := fun _ ho => h.occ_none ho
theorem layU_succ {m : List (List Int)} {j : Nat} (hj : j < (orderL m).length) : layU m ((orderL m).take (j + 1)) = layStep m (layU m ((orderL m).take j)) (orderL m)[j] := by
  rw [take_last hj, layU_append]
/-- Rows under way to be laid: a box, the block of the starts, the cells. -/
def Laying (m : List (List Int)) (B : Nat) (n g5 gS : Nat) (S : List Int) (C : List (Int × Int)) (wr : World) : Prop := ∃ aC cC, wr.heap[g5]? = some (.cells #[.int .i64 (colsN m), .slice (some ⟨gS, 0, none⟩) n n, .slice aC C.length cC] 38 (0, 0)) ∧ BI wr gS S ∧ B ≤ g5 ∧ B ≤ gS ∧ C.length ≤ cC ∧ RdP wr aC C ∧ (∀ b off, aC = some ⟨b, off, none⟩ → B ≤ b ∧ b ≠ gS ∧ b ≠ g5)

theorem asI_zero (n : Nat) : asI (List.replicate n 0) = List.replicate n 0 := by unfold asI; simp
theorem bi_made (w : World) (n : Nat) : BI (w.alloc (.cells (madeCells #[.int .i64 0] n) 3)) w.heap.size (List.replicate n 0) := by
  rw [← asI_zero]
  exact BI.of_row (World.rowIs_made w (.int .i64 0) n 3)
theorem laying_a (m : List (List Int)) (w : World) (n : Nat) : Laying m w.heap.size n w.heap.size (w.heap.size + 1) (List.replicate n 0) [] ((w.alloc (.cells #[.int .i64 (colsN m), .slice (some ⟨w.heap.size + 1, 0, none⟩) n n, .slice none 0 0] 38)).alloc (.cells (madeCells #[.int .i64 0] n) 3)).drew := by
  have h := bi_made (w.alloc (.cells #[.int .i64 (colsN m), .slice (some ⟨w.heap.size + 1, 0, none⟩) n n, .slice none 0 0] 38)) n
  have e : (w.alloc (.cells #[.int .i64 (colsN m), .slice (some ⟨w.heap.size + 1, 0, none⟩) n n, .slice none 0 0] 38)).heap.size = w.heap.size + 1 := by simp
  rw [e] at h
  refine ⟨none, 0, ?_, h.below (bdrew _), Nat.le_refl _, by omega, Nat.le_refl _, RdP.nil _ _, fun b off e => by cases e⟩
  show ((w.alloc _).alloc _).heap[w.heap.size]? = _
  exact keepBox (bnew _ _) (heapn _ _ _ rfl)
theorem laying_b (m : List (List Int)) (w : World) (n : Nat) : Laying m w.heap.size n (w.heap.size + 1) w.heap.size (List.replicate n 0) [] ((w.alloc (.cells (madeCells #[.int .i64 0] n) 3)).alloc (.cells #[.int .i64 (colsN m), .slice (some ⟨w.heap.size, 0, none⟩) n n, .slice none 0 0] 38)).drew := by
  refine ⟨none, 0, ?_, ((bi_made w n).below (bnew _ _)).below (bdrew _), by omega, Nat.le_refl _, Nat.le_refl _, RdP.nil _ _, fun b off e => by cases e⟩
  exact heapn _ _ _ (by simp)
theorem Laying.below {m : List (List Int)} {B n g5 gS : Nat} {S : List Int} {C : List (Int × Int)} {w w' : World} (h : Laying m B n g5 gS S C w) (hb : Below w.heap.size w w') : Laying m B n g5 gS S C w' := by
  obtain ⟨aC, cC, h1, h2, h3, h4, h5, h6, h7⟩ := h
  exact ⟨aC, cC, keepBox hb h1, h2.below hb, h3, h4, h5, h6.below hb, h7⟩
/-- A row was laid: its start and the cells are stored, in the one order or the other. -/
theorem laying_next {m : List (List Int)} {B n g5 gS i c' : Nat} {S : List Int} {C C' : List (Int × Int)} {s : Int} {a' : Option Addr} {w W : World} (h : Laying m B n g5 gS S C w) (hi : i < S.length) (hc : C'.length ≤ c') (hr : RdP w a' C') (hn : ∀ b off, a' = some ⟨b, off, none⟩ → B ≤ b ∧ b ≠ gS ∧ b ≠ g5)
    (hW : W = (w.setCell ⟨gS, i, none⟩ (.int .i64 s)).setCell ⟨g5, 2, none⟩ (.slice a' C'.length c') ∨ W = (w.setCell ⟨g5, 2, none⟩ (.slice a' C'.length c')).setCell ⟨gS, i, none⟩ (.int .i64 s)) :
    Laying m B n g5 gS (S.set i s) C' W ∧ (∀ B', B' ≤ g5 → B' ≤ gS → Below B' w W) ∧ ∀ g l, BI w g l → g ≠ gS → g ≠ g5 → BI W g l := by
  obtain ⟨aC, cC, h1, h2, h3, h4, h5, h6, h7⟩ := h
  have hne : gS ≠ g5 := fun e => h2.ne_box h1 e.symm
  rcases hW with rfl | rfl
  · have b1 : But gS w (w.setCell ⟨gS, i, none⟩ (.int .i64 s)) := (But.refl _ _).set _ _
    have b2 : But g5 (w.setCell ⟨gS, i, none⟩ (.int .i64 s)) ((w.setCell ⟨gS, i, none⟩ (.int .i64 s)).setCell ⟨g5, 2, none⟩ (.slice a' C'.length c')) := (But.refl _ _).set _ _
    have h1' := (b1.block g5 (lt_of_heap h1) hne.symm).trans h1
    refine ⟨⟨a', c', ?_, (h2.set hi s).but b2 hne, h3, h4, hc, (hr.but b1 fun b off e => (hn b off e).2.1).but b2 fun b off e => (hn b off e).2.2, hn⟩, fun B' hB hB2 => ((Below.refl _ _).setCell (p := ⟨gS, i, none⟩) hB2 _).setCell (p := ⟨g5, 2, none⟩) hB _, fun g l hg hg1 hg2 => (hg.but b1 hg1).but b2 hg2⟩
    exact (heap_setCell_same _ _ _ _ _ _ h1').trans rfl
  · have b1 : But g5 w (w.setCell ⟨g5, 2, none⟩ (.slice a' C'.length c')) := (But.refl _ _).set _ _
    have b2 : But gS (w.setCell ⟨g5, 2, none⟩ (.slice a' C'.length c')) ((w.setCell ⟨g5, 2, none⟩ (.slice a' C'.length c')).setCell ⟨gS, i, none⟩ (.int .i64 s)) := (But.refl _ _).set _ _
    have h1' : (w.setCell ⟨g5, 2, none⟩ (.slice a' C'.length c')).heap[g5]? = _ := heap_setCell_same _ _ _ _ _ _ h1
    refine ⟨⟨a', c', ?_, (h2.but b1 hne).set hi s, h3, h4, hc, (hr.but b1 fun b off e => (hn b off e).2.2).but b2 fun b off e => (hn b off e).2.1, hn⟩, fun B' hB hB2 => ((Below.refl _ _).setCell (p := ⟨g5, 2, none⟩) hB _).setCell (p := ⟨gS, i, none⟩) hB2 _, fun g l hg hg1 hg2 => (hg.but b1 hg2).but b2 hg1⟩
    exact (b2.block g5 (by rw [World.size_setCell]; exact lt_of_heap h1) hne.symm).trans (h1'.trans rfl)

theorem laying_fin {m : List (List Int)} {n g5 gS gO i c' : Nat} {S lO : List Int} {C C' : List (Int × Int)} {s : Int} {a' : Option Addr} {w1 wr w W : World} (h : Laying m w1.heap.size n g5 gS S C wr) (h1 : Below w1.heap.size w1 wr) (hb : Below wr.heap.size wr w) (hi : i < S.length) (hc : C'.length ≤ c') (hr : RdP w a' C') (hn : ∀ b off, a' = some ⟨b, off, none⟩ → w1.heap.size ≤ b ∧ b ≠ gS ∧ b ≠ g5)
    (hB : w1.heap.size ≤ g5 ∧ w1.heap.size ≤ gS) (ho : BI wr gO lO) (hO : gO ≠ gS ∧ gO ≠ g5)
    (hW : W = (w.setCell ⟨gS, i, none⟩ (.int .i64 s)).setCell ⟨g5, 2, none⟩ (.slice a' C'.length c') ∨ W = (w.setCell ⟨g5, 2, none⟩ (.slice a' C'.length c')).setCell ⟨gS, i, none⟩ (.int .i64 s)) :
    Laying m w1.heap.size n g5 gS (S.set i s) C' W ∧ Below w1.heap.size w1 W ∧ BI W gO lO := by
  obtain ⟨k1, k2, k3⟩ := laying_next (h.below hb) hi hc hr hn hW
  exact ⟨k1, (h1.step hb).trans (k2 _ hB.1 hB.2), k3 gO _ (ho.below hb) hO.1 hO.2⟩

set_option maxRecDepth 100000 in
set_option maxHeartbeats 8000000 in
theorem lay_ok (m : List (List Int)) (a : Option Addr) (cap : Nat) (w : World) (hl : RdM w a m) (h12 : m.length ≤ 19) (hE : chkM m = 0) :
    Calls Try.prog 7 #[.slice a m.length cap] w (LdRet2 (layV m) (chkM m) w) := by
  have HL := hid hl; clear hl
  have hm := chkM_ok hE
  have HM := hid hm
  have hv : layV m = layR m := by unfold layV; rw [if_pos hE]
  rw [hv, hE]
  have HB0 := hid (bnew w (.cells #[.int .i64 0, .slice none 0 0, .slice none 0 0] 38))
  have HX2 := hid (heapn w (.cells #[.int .i64 0, .slice none 0 0, .slice none 0 0] 38) _ rfl)
  have HC := hid (fun (w : World) (h : RdM w a m) => (by have := check_any m a cap w h (by omega) (fun r hr => by obtain ⟨i, hi, rfl⟩ := List.getElem_of_mem hr; rw [hm.len i hi]; have := hm.cols; omega); rw [hE] at this; exact this : Calls Try.prog 20 #[.slice a m.length cap] w (RetS (.int .i64 0) w)))
  obtain ⟨b0, o0, ha, hlt0, ai0, ci0, hc0⟩ := HL.out.head hm.some'
  subst ha
  have n0 : (0 : Int) < (m.length : Int) := by have := hm.some'; omega
  have hc1 := cell_later HB0.out hc0
  obtain ⟨n, hn⟩ : ∃ n, n = m.length := ⟨_, rfl⟩
  have HN := hid hn
  have hmk := fun w => run_make_row' (P := Try.prog) 33 3 (.int .i64 0) 8 Try.underlying33 info3 rfl .i64 .i64 m.length (by omega) (by omega) w
  clear hE hm hv hc0 hn
  go_enter Try.func7, Try.ntmps7
  go_wp2_with fail
  generalize w.alloc (.cells #[.int .i64 0, .slice none 0 0, .slice none 0 0] 38) = w1 at *
  obtain ⟨g2, hg2⟩ : ∃ g, g = w.heap.size := ⟨_, rfl⟩
  rw [← hg2] at HX2
  rw [← hg2]
  have HG := hid hg2
  clear hg2
  go_upto_region 4 with (go_at_call 20; refine (HC.out _ (HL.out.below HB0.out)).mono ?_; rintro e w2 ⟨rfl, rfl⟩)
  go_cut [5] (fun s5 wx => ∃ g5 gS, s5 = .pointer (some ⟨g5, 0, none⟩) ∧ Hid (Laying m w1.heap.size m.length g5 gS (List.replicate m.length 0) [] wx ∧ Below w1.heap.size w1 wx))
  case first =>
    have hb := bdrew w1
    have HC1 := hid hc1
    clear hc1
    have n0n : 0 < m.length := by omega
    have n0e : m ≠ [] := by intro e; rw [e] at n0n; simp at n0n
    have n0d : decide (0 < m.length) = true := by simpa using n0n
    go_region_held3 (fun w' => w'.cell? ⟨b0, o0, none⟩ = some (.slice ai0 (colsN m) ci0)) (first | exact HC1.out | exact cell_later (by repeat (first | exact hb | exact Below.refl _ _ | refine bmore ?_ _ | refine Below.setCell ?_ (by simp <;> omega) _ | refine Below.drew ?_)) HC1.out | go_keep) (fail)
    all_goals
      go_wp2_with fail
      go_meet
      first
        | exact ⟨_, _, rfl, hid ⟨laying_a m w1 _, ((bnew _ _).step (bnew _ _)).drew⟩⟩
        | exact ⟨_, _, rfl, hid ⟨laying_b m w1 _, ((bnew _ _).step (bnew _ _)).drew⟩⟩
  case rest =>
    obtain ⟨g5, gS, rfl, HLY⟩ := hcut
    clear hmk hc1
    obtain ⟨wq, hwq⟩ : ∃ wq, wq = wc := ⟨_, rfl⟩
    rw [← hwq] at HLY
    rw [← hwq]
    clear hwq
    have HOL := hid (order_length HM.out)
    have HLT : Hid (g5 < wq.heap.size ∧ gS < wq.heap.size) := by
      obtain ⟨aC, cC, h1, h2, _⟩ := HLY.out.1
      exact hid ⟨lt_of_heap h1, h2.lt⟩
    go_wp2_with (go_at_call 21; (with_reducible refine (order_any m _ cap _ HM.out h12 (HL.out.below (HB0.out.step HLY.out.2))).mono ?_); rintro e w3 ⟨hb, gO, cO, rfl, hgO, hbi⟩; rw [asI_length, HOL.out]; have HGO := hid hgO; have HBO := hid hbi; have HLY3 := hid (And.intro (HLY.out.1.below hb) (HLY.out.2.step hb)); clear hb hgO hbi)
    go_loopg [25] m.length (fun gh s25 wr => ∃ k : Nat, k ≤ m.length ∧ gh = m.length - k ∧ s25 = .int .i64 k ∧ Hid (Laying m w1.heap.size m.length g5 gS (layU m ((orderL m).take k)).1 (layU m ((orderL m).take k)).2 wr ∧ Below w1.heap.size w1 wr ∧ BI wr gO (asI (orderL m))))
    case atStart => exact ⟨0, Nat.zero_le _, rfl, rfl, hid ⟨HLY3.out.1, HLY3.out.2, HBO.out⟩⟩
    case round =>
      obtain ⟨k, hk, rfl, rfl, HK⟩ := hrel
      by_cases hlt : k < m.length
      · have n1 : (k : Int) < (m.length : Int) := by omega
        have hko : k < (orderL m).length := by rw [HOL.out]; exact hlt
        have c1 := HK.out.2.2.at (i := k) (by rw [asI_length]; exact hko)
        rw [asI_getElem _ hko] at c1
        have hpre := layU_prefix HM.out hk
        have hsucc := layU_succ hko
        have hi : (orderL m)[k] < m.length := (order_mem HM.out).1 (List.getElem_mem hko)
        obtain ⟨i, hie⟩ : ∃ i, i = (orderL m)[k] := ⟨_, rfl⟩
        rw [← hie] at c1 hsucc hi
        obtain ⟨br, orr, har, hlr, ai, ci, hcr, hrr⟩ := (HL.out.below (HB0.out.step HK.out.2.1)).row hi
        cases har
        have HSU := hid hsucc
        have HGOOD := hid hpre.good
        have HSL := hid hpre.len
        have hcs := hpre.size
        clear hie hsucc hpre
        obtain ⟨aC, cC, h1, h2, h3, h4, h5, h6, h7⟩ := HK.out.1
        have hrow := HM.out.row hi
        have HROW := hid hrow
        have hcs2 : (layU m ((orderL m).take k)).2.length ≤ 50000 := by
          have e1 : ((orderL m).take k).length ≤ 19 := by rw [List.length_take]; omega
          have e2 := HM.out.cols
          have : ((orderL m).take k).length * colsN m ≤ 19 * 400 := Nat.mul_le_mul e1 e2
          omega
        have HPL := hid fun w h1 h2 => place_any (layU m ((orderL m).take k)).2 HGOOD.out aC cC (m.getD i []) ai ci (i : Nat) w h1 hcs2 h5 h2 HROW.out.2 (by rw [HROW.out.1]; have := HM.out.cols; omega)
        obtain ⟨row, hrw⟩ : ∃ row, row = m.getD i [] := ⟨_, rfl⟩
        have hsu : layStep m (layU m ((orderL m).take k)) i = ((layU m ((orderL m).take k)).1.set i (startN (layU m ((orderL m).take k)).2 row), putL (layU m ((orderL m).take k)).2 row i) := by rw [hrw]; rfl
        have HSU := hid (HSU.out.trans hsu)
        rw [← hrw] at hcr hrr HPL
        clear HROW hsu hrow
        have HRW := hid hrw
        clear hrw
        have hSl : i < (layU m ((orderL m).take k)).1.length := by rw [HSL.out]; exact hi
        generalize layU m ((orderL m).take k) = st at *
        obtain ⟨S, C⟩ := st
        simp only at h1 h2 h5 h6 hcs hcs2 hSl HPL
        have HPL := HPL
        obtain ⟨s0, s1, s2, f0, f1, f2⟩ := box3 h1
        have hat := h2.at hSl
        have hfr := h2.frozen i
        have hLAY : Hid (Laying m w1.heap.size m.length g5 gS S C wr) := hid HK.out.1
        have H1 := hid h1
        have H2 := hid h2
        have H6 := hid h6
        have HCR := hid hcr
        have HRR := hid hrr
        have HSLT := hid hSl
        have hSi : (i : Int) < (m.length : Int) := by omega
        generalize S[i] = old at hat
        obtain ⟨s9, hs9⟩ : ∃ s, s = startN C row := ⟨_, rfl⟩
        obtain ⟨C9, hC9⟩ : ∃ s, s = putL C row i := ⟨_, rfl⟩
        have hw9 := fun w h1 h2 => HPL.out w h1 h2
        rw [← hs9, ← hC9] at hw9
        have HPL := hid hw9
        have HS9 := hid hs9
        have HC9 := hid hC9
        have HNB := hid h7
        clear hw9 hs9 hC9 h1 h2 h6 hrr hSl h7
        have hne1 : ¬ gS = g5 := fun e => H2.out.ne_box H1.out e.symm
        have hne2 : ¬ g5 = gS := fun e => H2.out.ne_box H1.out e
        go_upto_block 1 with fail
        go_cut [] (fun wx => Hid (Laying m w1.heap.size m.length g5 gS (S.set i s9) C9 wx ∧ Below w1.heap.size w1 wx ∧ BI wx gO (asI (orderL m))))
        case first =>
          go_upto_region 8 with fail
          go_region_with (go_at_call 22; (with_reducible refine (HPL.out _ (H6.out.below (bdrew _)) (HRR.out.below (bdrew _))).mono ?_); rintro e w9 ⟨hb, a9, c9, rfl, hc9, hrp, hn9⟩; have hbb := hid ((bdrew wr).step hb); clear hb; have hrp := hid hrp; have hc9 := hid hc9; have hn9 := hid hn9; obtain ⟨s0, s1, s2, f0, f1, f2⟩ := box3 (keepBox hbb.out H1.out); have hat := cell_later hbb.out hat; have hfr := (H2.out.below hbb.out).frozen i)
          all_goals
            go_wp2_with fail
            go_meet
            refine hid ?_
            have hnn : ∀ b off, a9 = some ⟨b, off, none⟩ → w1.heap.size ≤ b ∧ b ≠ gS ∧ b ≠ g5 := fun b off e => by
              have e1 := hn9.out b off e
              have e2 := H2.out.lt
              have e3 := lt_of_heap H1.out
              have e4 : wr.heap.size ≤ b := e1
              have e5 := HK.out.2.1.size
              omega
            have hB3 : w1.heap.size ≤ g5 ∧ w1.heap.size ≤ gS := by
              obtain ⟨_, _, _, _, e1, e2, _⟩ := HK.out.1
              exact ⟨e1, e2⟩
            have hO : gO ≠ gS ∧ gO ≠ g5 := by
              have e1 := HGO.out
              have e2 := HLT.out
              omega
            exact laying_fin (s := (s9 : Int)) hLAY.out HK.out.2.1 hbb.out HSLT.out hc9.out hrp.out hnn hB3 HK.out.2.2 hO (by first | exact .inl rfl | exact .inr rfl)
        case rest =>
          clear hat hfr s0 s1 s2 f0 f1 f2 hne1 hne2
          go_wp2
          go_roundg (m.length - (k + 1))
          case measure => omega
          case rel =>
            refine ⟨k + 1, by omega, rfl, by go_num, hid ?_⟩
            rw [HSU.out, ← HS9.out, ← HC9.out]
            exact hcut.out
      · have hkm : k = m.length := by omega
        subst hkm
        have hfull : layU m ((orderL m).take m.length) = layL m := by
          rw [← HOL.out, List.take_of_length_le (Nat.le_refl _)]
          rfl
        have hX2 := keepBox (HK.out.2.1) HX2.out
        obtain ⟨aC, cC, h1, h2, h3, h4, h5, h6, h7⟩ := HK.out.1
        rw [hfull] at h1 h2 h5 h6
        have HSL := hid (lay_inv HM.out).len
        have H := hid (And.intro h2 (And.intro h5 (And.intro h6 (And.intro h7 h4))))
        have HBW := hid (HB0.out.step HK.out.2.1)
        obtain ⟨k0, k1, k2, _, _, _⟩ := box3 h1
        obtain ⟨r0, r1, r2, _, _, _⟩ := box3 hX2
        have HL2 := hid (lt_of_heap HX2.out)
        clear hfull hX2 h1 h2 h3 h4 h5 h6 h7
        go_wp2
        refine bodyPost_ret (v := .tuple #[.agg #[.int .i64 (colsN m), .slice (some ⟨gS, 0, none⟩) m.length m.length, .slice aC (layL m).2.length cC], .int .i64 0]) (by simp [results, Try.results7, go_sem, r0, r1, r2]) rfl ?_
        have hbW : But g2 wr (((wr.setCell ⟨g2, 0, none⟩ (.int .i64 (colsN m))).setCell ⟨g2, 1, none⟩ (.slice (some ⟨gS, 0, none⟩) m.length m.length)).setCell ⟨g2, 2, none⟩ (.slice aC (layL m).2.length cC)) := (((But.refl _ _).set _ _).set _ _).set _ _
        have hg := HG.out
        refine ⟨HBW.out.trans (hbW.below (by omega) HBW.out.size), some ⟨gS, 0, none⟩, m.length, aC, cC, ?_, ?_⟩
        · show _ = Ending.returned (.tuple #[.agg #[.int .i64 (colsN m), .slice (some ⟨gS, 0, none⟩) (layL m).1.length m.length, .slice aC (layL m).2.length cC], .int .i64 0])
          rw [HSL.out]
        · have hgS := H.out.2.2.2.2
          refine ⟨(H.out.1.but hbW (by have := HL2.out; omega)).rd, H.out.2.2.1.but hbW fun b off e => ?_, ?_, H.out.2.1⟩
          · have e1 := (H.out.2.2.2.1 b off e).1
            have := HL2.out
            omega
          · show (layL m).1.length ≤ m.length
            rw [HSL.out]
            exact Nat.le_refl _

set_option maxRecDepth 100000 in
set_option maxHeartbeats 4000000 in
theorem Lay_any (m : List (List Int)) (a : Option Addr) (cap : Nat) (w : World) (hl : RdM w a m) (h12 : chkM m = 0 → m.length ≤ 19) (hlen : m.length ≤ 1000000) (hrl : ∀ r, r ∈ m → r.length ≤ 1000000) :
    Calls Try.prog 7 #[.slice a m.length cap] w (LdRet2 (layV m) (chkM m) w) := by
  by_cases hE : chkM m = 0
  · exact lay_ok m a cap w hl (h12 hE) hE
  · have HL := hid hl; clear hl
    have HR := hid hrl; clear hrl
    have hv : layV m = emptyL := by unfold layV; rw [if_neg hE]
    rw [hv]
    have hne : (chkM m == 0) = false := by rw [beq_eq_false_iff_ne]; exact hE
    have HB0 := hid (bnew w (.cells #[.int .i64 0, .slice none 0 0, .slice none 0 0] 38))
    obtain ⟨r0, r1, r2, _, _, _⟩ := box3 (heapn w (.cells #[.int .i64 0, .slice none 0 0, .slice none 0 0] 38) _ rfl)
    clear hE hv h12
    go_enter Try.func7, Try.ntmps7
    go_wp2_with (go_at_call 20; refine (check_any m a cap _ (HL.out.below HB0.out) hlen HR.out).mono ?_; rintro e w' ⟨rfl, rfl⟩)
    exact bodyPost_ret (v := .tuple #[.agg #[.int .i64 0, .slice none 0 0, .slice none 0 0], .int .i64 (chkM m)]) (by simp [results, Try.results7, go_sem]) rfl (LdRet2.empty _ HB0.out)
end Go.Proofs.Ytecpkjhfbmchgaa
