/- The contract of Fold of package table. -/
import Derived.Test.YtecpkjhfbmchgaaG21
namespace Go.Proofs.Ytecpkjhfbmchgaa
open Go.RowKit

theorem info97 : (Try.prog.info? 63).map (fun i => (i.zero, i.size, i.bytes)) = some (some (.agg #[.int .i64 0, .int .i64 0]), 2, 16) := by kernel_rfl
theorem run_make97 (n : Nat) (hn : n ≤ 100000) (w : World) : (Instr.makeSlice 61 (.int .i64 (n : Int)) (.int .i64 (n : Int))).run Try.prog w = .ok (.slice (some ⟨w.heap.size, 0, none⟩) n n) (w.alloc (.cells (madeCells #[.int .i64 0, .int .i64 0] (n * 2)) 63)) := by
  obtain ⟨i, hi, hz, hs, hb⟩ := info_parts info97
  have h := run_make (P := Try.prog) w 61 63 i _ Try.underlying61 hi hz .i64 .i64 n n (by omega) (Int.le_refl _) (by rw [hb]; omega) (by omega)
  rw [hs, Int.toNat_natCast] at h
  exact h
theorem bp_made (w : World) (n : Nat) : BP 63 (w.alloc (.cells (madeCells #[.int .i64 0, .int .i64 0] (n * 2)) 63)) w.heap.size (List.replicate n (0, 0)) := by
  refine ⟨_, heapn _ _ _ rfl, fun i hi j hj => ?_⟩
  have hi' : i < n := by simpa using hi
  have hlt : i * 2 + j < n * 2 := by omega
  unfold madeCells
  rw [Array.getElem?_map, Array.getElem?_range, if_pos hlt]
  match j, hj with
  | 0, _ => simp [c2]
  | 1, _ =>
    have e : (i * 2 + 1) % 2 = 1 := by omega
    simp [c2, e]
theorem manyC_le {l : List Nat} {n : Nat} (h : ∀ c, c ∈ l → c < n) : manyC l ≤ n := by
  induction l with
  | nil => exact Nat.zero_le _
  | cons x l ih =>
    have h1 := h x (List.mem_cons_self ..)
    have h2 := ih fun c hc => h c (List.mem_cons_of_mem _ hc)
    unfold manyC
    omega
theorem many_cols (m : List (List Int)) (n : Nat) : manyC (colL m n) ≤ n := by
  refine manyC_le fun c hc => ?_
  obtain ⟨i, hi, rfl⟩ := List.getElem_of_mem hc
  have h1 : i < n := by rw [colL_length] at hi; exact hi
  have h2 := colL_le m n i h1
  rw [getD_in hi] at h2
  omega
/-- A row of which the first k are set to be nobody's. -/
def nobU (n k : Nat) : List (Int × Int) := List.replicate k (-1, -1) ++ List.replicate (n - k) (0, 0)
theorem nobU_length {n k : Nat} (h : k ≤ n) : (nobU n k).length = n := by unfold nobU; simp; omega
theorem nobU_put {n k : Nat} (h : k < n) : (nobU n k).set k (-1, -1) = nobU n (k + 1) := by
  unfold nobU
  rw [List.set_append_right _ _ (by simp), show n - k = (n - (k + 1)) + 1 from by omega, List.replicate_succ, List.replicate_succ']
  simp
theorem ownI_lt {w : World} {base : Nat} {a : Option Addr} {n c : Nat} {l : List Int} (h : OwnI w base (.slice a n c) l) : ∀ b off, a = some ⟨b, off, none⟩ → b < w.heap.size := by
  intro b off e
  subst e
  rcases h.2 with ⟨e, _⟩ | ⟨g, cap, cur, e, _, hh, _⟩
  · cases e
  · cases e
    exact lt_of_heap hh
theorem BP.ne_type {w : World} {g g' : Nat} {L : List (Int × Int)} {c : Array Value} {X : TypeId} (h' : BP 63 w g' L) (h : w.heap[g]? = some (.cells c X (0, 0))) (hx : X ≠ 63) : g ≠ g' := by
  obtain ⟨c', h', _⟩ := h'
  intro e
  subst e
  rw [h] at h'
  injection h' with h'
  injection h' with e1 e2
  exact hx e2
theorem OwnG.but {M : Nat} {w w' : World} {base : Nat} {v : Value} {m : List (List (Int × Int))} (h : OwnG w base v m) (hb : But M w w') (hM : ∃ c X, w.heap[M]? = some (.cells c X (0, 0)) ∧ X ≠ 63 ∧ X ≠ 61) : OwnG w' base v m := by
  obtain ⟨c, X, hh, hx, hy⟩ := hM
  obtain ⟨vs, h1, h2, h3⟩ := h
  have ht := own_type h2
  refine ⟨vs, h1, own_later h2 fun b hbk hlt => hb.block b hlt fun e => ?_, fun i hi => ?_⟩
  · obtain ⟨cur, hc⟩ := ht b hbk
    subst e
    rw [hh] at hc
    injection hc with hc
    injection hc with e1 e2
    exact hy e2
  · obtain ⟨ai, ci, k1, k2⟩ := h3 i hi
    refine ⟨ai, ci, k1, ?_⟩
    rcases k2 with e | ⟨g, e, hg⟩
    · exact .inl e
    · refine .inr ⟨g, e, ?_⟩
      have hne := (hg.ne_type hh hx).symm
      have hlt := hg.lt
      obtain ⟨cur, q1, q2⟩ := hg
      exact ⟨cur, (hb.block g hlt hne).trans q1, q2⟩
/-- What Fold returns. -/
def FoldRet (C : List Int) (R : List (List (Int × Int))) (y : Int) (w : World) (e : Ending) (w' : World) : Prop := Below w.heap.size w w' ∧ ∃ ac cc ar cr, e = .returned (.tuple #[.agg #[.slice ac C.length cc, .slice ar R.length cr], .int .i64 y]) ∧ RdI w' ac C ∧ RdG w' ar R
def foldP (m : List (List Int)) (i : Nat) : List (List (Int × Int)) := (foldG m).take i
theorem foldP_succ {m : List (List Int)} {i : Nat} (h : i < m.length) : foldP m (i + 1) = foldP m i ++ [foldRow (colL m (colsN m)) (manyC (colL m (colsN m))) (m.getD i [])] := by
  unfold foldP
  have h' : i < (foldG m).length := by unfold foldG; rw [List.length_map]; exact h
  rw [take_last h']
  have e : (foldG m)[i]? = some (foldRow (colL m (colsN m)) (manyC (colL m (colsN m))) (m.getD i [])) := by
    unfold foldG
    rw [List.getElem?_map, List.getElem?_eq_getElem h, getD_in h]
    rfl
  rw [List.getElem?_eq_getElem h'] at e
  rw [Option.some.inj e]
theorem foldP_end (m : List (List Int)) : foldP m m.length = foldG m := by
  unfold foldP
  rw [List.take_of_length_le]
  unfold foldG
  rw [List.length_map]
  exact Nat.le_refl _
theorem But.then_below {M : Nat} {a b c : World} (h : But M a b) (k : Below a.heap.size b c) : But M a c :=
  ⟨k.os.trans h.os, k.tape.trans h.tape, k.output.trans h.output, Nat.le_trans h.size k.size, fun i hi hm => (k.block i hi).trans (h.block i hi hm)⟩
theorem own_slice {w : World} {base : Nat} {e : TypeId} {sz : Nat} {v : Value} {n : Nat} {xs : List Value} (h : w.ownsRow base e sz v n xs) : ∃ a c, v = .slice a n c := by
  rcases h.2 with ⟨rfl, rfl⟩ | ⟨g, cap, cur, rfl, _⟩
  · exact ⟨none, 0, rfl⟩
  · exact ⟨_, _, rfl⟩
/-- Under way: the box of what is returned, the rows so far. -/
def Folding (m : List (List Int)) (w7 : World) (g7 : Nat) (ac : Option Addr) (cc i : Nat) (wr : World) : Prop := ∃ v, wr.heap[g7]? = some (.cells #[.slice ac (colsN m) cc, v] 53 (0, 0)) ∧ OwnG wr w7.heap.size v (foldP m i) ∧ But g7 w7 wr
theorem Folding.below {m : List (List Int)} {w7 : World} {g7 : Nat} {ac : Option Addr} {cc i : Nat} {w w' : World} (h : Folding m w7 g7 ac cc i w) (hb : Below w.heap.size w w') : Folding m w7 g7 ac cc i w' := by
  obtain ⟨v, h1, h2, h3⟩ := h
  exact ⟨v, keepBox hb h1, h2.later hb, h3.trans (But.of_below hb)⟩

set_option maxRecDepth 100000 in
set_option maxHeartbeats 8000000 in
theorem fold_ok (m : List (List Int)) (a : Option Addr) (cap : Nat) (w : World) (hl : RdM w a m) (hE : chkM m = 0) :
    Calls Try.prog 13 #[.slice a m.length cap] w (FoldRet (foldC m) (foldV m) (chkM m) w) := by
  have HL := hid hl; clear hl
  have hm := chkM_ok hE
  have HM := hid hm
  have hv : foldC m = asI (colL m (colsN m)) ∧ foldV m = foldG m := ⟨by unfold foldC; rw [if_pos hE]; rfl, by unfold foldV; rw [if_pos hE]⟩
  rw [hv.1, hv.2, hE]
  have HB0 := hid (bnew w (.cells #[.slice none 0 0, .slice none 0 0] 53))
  have HX2 := hid (heapn w (.cells #[.slice none 0 0, .slice none 0 0] 53) _ rfl)
  have HC := hid (fun (w : World) (h : RdM w a m) => (by have := check_any m a cap w h (by have := hm.rows; omega) (fun r hr => by obtain ⟨i, hi, rfl⟩ := List.getElem_of_mem hr; rw [hm.len i hi]; have := hm.cols; omega); rw [hE] at this; exact this : Calls Try.prog 20 #[.slice a m.length cap] w (RetS (.int .i64 0) w)))
  have h60 := hm.rows
  obtain ⟨n, hn⟩ : ∃ n, n = manyC (colL m (colsN m)) := ⟨_, rfl⟩
  have hnc : n ≤ 400 := by have := many_cols m (colsN m); have := hm.cols; omega
  have HN := hid hn
  have HLEN : Hid ((asI (colL m (colsN m))).length = colsN m) := hid (by rw [asI_length, colL_length])
  have HMK := hid (run_make97 n (by omega))
  have HCOLS := hid hm.cols
  clear hE hm hv hn
  go_enter Try.func13, Try.ntmps13
  go_wp2_with fail
  generalize w.alloc (.cells #[.slice none 0 0, .slice none 0 0] 53) = w1 at *
  obtain ⟨g2, hg2⟩ : ∃ g, g = w.heap.size := ⟨_, rfl⟩
  rw [← hg2] at HX2
  rw [← hg2]
  have HG := hid hg2
  clear hg2
  go_upto_region 5 with (first
    | (go_at_call 20; refine (HC.out _ (HL.out.below HB0.out)).mono ?_; rintro e w2 ⟨rfl, rfl⟩)
    | (go_at_call 26; (with_reducible refine (colour_any m _ cap _ HM.out (HL.out.below HB0.out)).mono ?_); rw [← HN.out]; rintro e w6 ⟨hb6, v, rfl, hown⟩; obtain ⟨ac, cc, gcc, rfl, _, _, hrd, _, hnew⟩ := ownI_wr hown; rw [HLEN.out] at hown ⊢; have HNA := hid hnew; clear hnew; have HLT := hid (ownI_lt hown); have HAC := hid hrd; have HB6 := hid hb6; clear hb6 hown hrd))
  go_wp2_with fail
  have hb7 := bnew w6 (.cells #[.slice ac (colsN m) cc, .slice none 0 0] 53)
  have hX7 := heapn w6 (.cells #[.slice ac (colsN m) cc, .slice none 0 0] 53) _ rfl
  generalize w6.alloc (.cells #[.slice ac (colsN m) cc, .slice none 0 0] 53) = w7 at *
  obtain ⟨g7, hg7⟩ : ∃ g, g = w6.heap.size := ⟨_, rfl⟩
  rw [← hg7] at hX7 HLT
  rw [← hg7]
  have HB7 := hid (HB6.out.step hb7)
  have HAC := hid (HAC.out.below hb7)
  have HLT7 := hid (lt_of_heap hX7)
  have HG7 := hid (show w1.heap.size ≤ g7 by rw [hg7]; exact HB6.out.size)
  have HF0 : Hid (Folding m w7 g7 ac cc 0 w7) := hid ⟨_, hX7, OwnG.nil _ _, But.refl _ _⟩
  clear hg7 hb7 hX7 HB6
  go_loopg [29] m.length (fun gh s29 wr => ∃ i : Nat, i ≤ m.length ∧ gh = m.length - i ∧ s29 = .int .i64 i ∧ Hid (Folding m w7 g7 ac cc i wr))
  case atStart => exact ⟨0, Nat.zero_le _, rfl, rfl, HF0⟩
  case round =>
    obtain ⟨i, hi, rfl, rfl, HK⟩ := hrel
    have HBW : Hid (Below w1.heap.size w1 wr) := by
      obtain ⟨v, _, _, h3⟩ := HK.out
      exact hid (HB7.out.trans (h3.below HG7.out HB7.out.size))
    by_cases hlt : i < m.length
    · obtain ⟨wo, rfl⟩ : ∃ wo : World, wo = wr := ⟨_, rfl⟩
      have ni : (i : Int) < (m.length : Int) := by omega
      obtain ⟨br, orr, har, hlr, ai, ci, hcr, hrr⟩ := (HL.out.below (HB0.out.step HBW.out)).row hlt
      subst har
      have HSUCC := hid (foldP_succ hlt)
      have HROW := hid (HM.out.row hlt)
      have HRR := hid hrr
      obtain ⟨row, hrw⟩ : ∃ row, row = m.getD i [] := ⟨_, rfl⟩
      rw [← hrw] at hcr HRR HROW HSUCC
      have hmk := HMK.out wo
      clear hrr hrw
      go_wp2_with fail
      have hbR := bnew wo (.cells (madeCells #[.int .i64 0, .int .i64 0] (n * 2)) 63)
      have hpR := bp_made wo n
      generalize wo.alloc (.cells (madeCells #[.int .i64 0, .int .i64 0] (n * 2)) 63) = w8 at *
      obtain ⟨gR, hgR⟩ : ∃ g, g = wo.heap.size := ⟨_, rfl⟩
      rw [← hgR] at hpR
      rw [← hgR]
      have HGR := hid (show wo.heap.size ≤ gR by rw [hgR]; exact Nat.le_refl _)
      have HB8 := hid hbR
      have HP8 : Hid (BP 63 w8 gR (nobU n 0)) := hid (by unfold nobU; rw [List.replicate_zero, List.nil_append, Nat.sub_zero]; exact hpR)
      clear hgR hbR hpR hmk hcr
      go_loopg [37] n (fun gh s37 wr => ∃ k : Nat, k ≤ n ∧ gh = n - k ∧ s37 = .int .i64 k ∧ Hid (BP 63 wr gR (nobU n k) ∧ Below wo.heap.size wo wr))
      case atStart => exact ⟨0, Nat.zero_le _, rfl, rfl, hid ⟨HP8.out, HB8.out⟩⟩
      case round =>
        obtain ⟨k, hk, rfl, rfl, HX⟩ := hrel
        by_cases hlk : k < n
        · have nk : (k : Int) < (n : Int) := by omega
          have hkl : k < (nobU n k).length := by rw [nobU_length hk]; exact hlk
          have hat := HX.out.1.at hkl
          have f0 := HX.out.1.frozen (k * 2)
          have f1 := HX.out.1.frozen (k * 2 + 1)
          generalize (nobU n k)[k] = old at hat
          obtain ⟨o1, o2⟩ := old
          obtain ⟨t1, t2⟩ := hat
          simp only at t1 t2
          have HKL := hid hkl
          clear hkl
          go_wp2
          go_roundg (n - (k + 1))
          case measure => omega
          case rel =>
            refine ⟨k + 1, by omega, rfl, by go_num, hid ⟨?_, (HX.out.2.setCell (p := ⟨gR, _, none⟩) HGR.out _).setCell (p := ⟨gR, _, none⟩) HGR.out _⟩⟩
            rw [← nobU_put hlk]
            exact HX.out.1.set HKL.out (-1) (-1)
        · have hkn : k = n := by omega
          subst hkn
          have HP9 : Hid (BP 63 wr gR (foldU (colL m (colsN m)) k row [])) := hid (by
            have h := HX.out.1
            unfold nobU at h
            rw [Nat.sub_self, List.replicate_zero, List.append_nil] at h
            exact h)
          obtain ⟨wp, rfl⟩ : ∃ wp : World, wp = wr := ⟨_, rfl⟩
          go_wp2_with (go_at_call 27; (with_reducible refine (full_any row ai ci _ (HRR.out.below HX.out.2) HROW.out.2 (by rw [HROW.out.1]; have := HCOLS.out; omega)).mono ?_); rintro e w9 ⟨hb9, v, rfl, hown⟩; obtain ⟨aF, cF, gF, rfl, _, _, hrd, _, hnew⟩ := ownI_wr hown; rw [asI_length]; have HF := hid hrd; have HNF := hid (show ∀ b off, aF = some ⟨b, off, none⟩ → b ≠ gR from fun b off e => by have h1 := hnew b off e; have h2 := HX.out.1.lt; omega); clear hnew; have HB9 := hid (HX.out.2.step hb9); have HP9 := hid (HP9.out.below hb9); clear hb9 hown hrd)
          go_loopg [48] (fullL row).length (fun gh s48 wr => ∃ j : Nat, j ≤ (fullL row).length ∧ gh = (fullL row).length - j ∧ s48 = .int .i64 j ∧ Hid (BP 63 wr gR (foldU (colL m (colsN m)) k row ((fullL row).take j)) ∧ But gR w9 wr))
          case atStart => exact ⟨0, Nat.zero_le _, rfl, rfl, hid ⟨HP9.out, But.refl _ _⟩⟩
          case round =>
            obtain ⟨j, hj, rfl, rfl, HY⟩ := hrel
            have HBY : Hid (Below wo.heap.size wo wr) := hid (HB9.out.trans (HY.out.2.below HGR.out HB9.out.size))
            by_cases hlj : j < (fullL row).length
            · have hcr := fullL_at hlj
              obtain ⟨bl, ol, hal, hll, h1⟩ := (HF.out.but HY.out.2 HNF.out) j (by rw [asI_length]; exact hlj)
              rw [asI_getElem _ hlj] at h1
              obtain ⟨bq, oq, hai, hlq, h2⟩ := ((HRR.out.below HBY.out)).at hcr
              have hput : foldU (colL m (colsN m)) k row ((fullL row).take (j + 1)) = (foldU (colL m (colsN m)) k row ((fullL row).take j)).set ((colL m (colsN m)).getD (fullL row)[j] 0) (((fullL row)[j] : Int), row.getD (fullL row)[j] (-1)) := by rw [take_last hlj, foldU_append]
              obtain ⟨c, hc⟩ : ∃ c, c = (fullL row)[j] := ⟨_, rfl⟩
              rw [← hc] at h1 h2 hcr hput
              have hcc : c < colsN m := by rw [← HROW.out.1]; exact hcr
              have hcl : (asI (colL m (colsN m))).length = colsN m := HLEN.out
              have hacw : RdI wr ac (asI (colL m (colsN m))) := by
                obtain ⟨v, _, _, h3⟩ := HK.out
                exact (HAC.out.but h3 (fun b off e => Nat.ne_of_lt (HLT.out b off e))).below HBY.out
              obtain ⟨bc, oc, hac, hlc, h3⟩ := hacw c (by rw [hcl]; exact hcc)
              rw [asI_at] at h3
              have hz := col_lt (m := m) hcc
              rw [← HN.out] at hz
              obtain ⟨z, hze⟩ : ∃ z, z = (colL m (colsN m)).getD c 0 := ⟨_, rfl⟩
              rw [← hze] at h3 hz hput
              have hzl : z < (foldU (colL m (colsN m)) k row ((fullL row).take j)).length := by rw [foldU_length]; exact hz
              have hat := HY.out.1.at hzl
              have f0 := HY.out.1.frozen (z * 2)
              have f1 := HY.out.1.frozen (z * 2 + 1)
              generalize (foldU (colL m (colsN m)) k row ((fullL row).take j))[z] = old at hat
              obtain ⟨o1, o2⟩ := old
              obtain ⟨t1, t2⟩ := hat
              simp only at t1 t2
              generalize row.getD c (-1) = e at h2 hput
              have hfl : j < 1000 := by have h8 := manyN_le row; have h9 : manyN row = (fullL row).length := rfl; have := HROW.out.1; have := HCOLS.out; omega
              have HZL := hid hzl
              have HPUT := hid hput
              have n1 : (j : Int) < ((fullL row).length : Int) := by omega
              have n2 : (c : Int) < (row.length : Int) := by omega
              have n3 : (c : Int) < (colsN m : Int) := by omega
              have n4 : (z : Int) < (k : Int) := by omega
              subst hal
              subst hai
              subst hac
              clear hzl hput hze hcl hacw hc hlc hlq hll
              go_upto_region 18 with fail
              go_still_tail 12, (by kernel_rfl)
              change wpList _ _ _ _ _ wr.drew
              have t1d : wr.drew.cell? ⟨gR, z * 2, none⟩ = some (.int .i64 o1) := t1
              have t2d : wr.drew.cell? ⟨gR, z * 2 + 1, none⟩ = some (.int .i64 o2) := t2
              have f1d : wr.drew.frozen? ⟨gR, z * 2, none⟩ = false := f0
              have f2d : wr.drew.frozen? ⟨gR, z * 2 + 1, none⟩ = false := f1
              clear h1 h2 h3
              go_wp2_with fail
              go_roundg ((fullL row).length - (j + 1))
              case measure => omega
              case rel =>
                refine ⟨j + 1, by omega, rfl, by go_num, hid ⟨?_, (HY.out.2.drew.set _ _).set _ _⟩⟩
                rw [HPUT.out]
                exact (HY.out.1.below (bdrew _)).set HZL.out c e
            · have hjl : j = (fullL row).length := by omega
              subst hjl
              obtain ⟨v, hX7, hG, h3⟩ := HK.out.below HBY.out
              obtain ⟨vs, hvl, hown, hvr⟩ := hG
              have HX7 := hid hX7
              have HH3 := hid h3
              have HOWN := hid hown
              have HVL := hid hvl
              have hvs : vs.length ≤ 1000 := by
                have h1 : (foldP m i).length ≤ i := by unfold foldP; rw [List.length_take]; omega
                omega
              have hrl : (foldRow (colL m (colsN m)) k row).length = k := foldU_length _ _ _ _
              have HRL := hid hrl
              have HRW : Hid (RowP (wr.alloc (.cells #[.slice (some ⟨gR, 0, none⟩) k k] 61)) (some ⟨gR, 0, none⟩) (foldRow (colL m (colsN m)) k row)) := hid (.inr ⟨gR, rfl, by
                have h := HY.out.1
                rw [List.take_of_length_le (Nat.le_refl _)] at h
                exact h.below (bnew _ _)⟩)
              have HVR2 := hid (fun j hj => by
                obtain ⟨a1, c1, q1, q2⟩ := hvr j hj
                exact (⟨a1, c1, q1, q2.below (bnew wr (.cells #[.slice (some ⟨gR, 0, none⟩) k k] 61))⟩ : ∃ ai ci, vs[j]? = some (.slice ai (foldP m i)[j].length ci) ∧ RowP (wr.alloc (.cells #[.slice (some ⟨gR, 0, none⟩) k k] 61)) ai (foldP m i)[j]))
              have hsz := h3.size
              have HBN := hid (bnew wr (.cells #[.slice (some ⟨gR, 0, none⟩) k k] 61))
              obtain ⟨k0, k1, _, _⟩ := box2 hX7
              clear hX7 hown hvl hvr hrl h3
              go_wp2_with (at_builtin; refine wpList_append_val Try.underlying51 info95 _ rfl _ _ rfl w7.heap.size _ vs rfl (own_below HOWN.out (bnew _ _)) ⟨wr.heap.size, 0, none⟩ 1 (.slice (some ⟨gR, 0, none⟩) k k) rfl rfl (cell0_alloc _ _ _) (by omega) (by simp; omega) ?_; intro v' wz hown hgr; obtain ⟨aV, cV, hv'⟩ := own_slice hown; rw [List.length_append] at hv'; simp only [List.length_cons, List.length_nil, Nat.zero_add] at hv'; subst hv'; have HO := hid hown; have HBB := hid (show Below w7.heap.size (wr.alloc (.cells #[.slice (some ⟨gR, 0, none⟩) k k] 61)) wz from Below.grown (Below.refl _ _) hgr (Nat.le_trans hsz HBN.out.size) (own_ge HOWN.out)); have HGR2 := hid hgr; have HXZ := hid ((HBB.out.block g7 HLT7.out).trans (keepBox HBN.out HX7.out)); obtain ⟨z0, z1, y0, y1⟩ := box2 HXZ.out; clear hown hgr)
              go_roundg (m.length - (i + 1))
              case measure => omega
              case rel =>
                have hq := HO.out
                rw [← HRL.out] at hq
                have hpush := OwnG.push (v := _) HVL.out (own_below HOWN.out (bnew _ _)) HVR2.out HRW.out hq HGR2.out
                have hbut : But g7 wz (wz.setCell ⟨g7, 1, none⟩ (.slice aV (vs.length + 1) cV)) := (But.refl _ _).set _ _
                refine ⟨i + 1, by omega, rfl, by go_num, hid ⟨.slice aV (vs.length + 1) cV, ?_, ?_, ?_⟩⟩
                · exact (heap_setCell_same _ _ _ _ _ _ HXZ.out).trans rfl
                · rw [HSUCC.out, ← HN.out]
                  exact hpush.but hbut ⟨_, _, HXZ.out, by decide, by decide⟩
                · exact ((HH3.out.trans (But.of_below HBN.out)).then_below HBB.out).trans hbut
    · have him : i = m.length := by omega
      subst him
      obtain ⟨v, hX7, hG, h3⟩ := HK.out
      obtain ⟨aG, cG, rfl, hrd, hng⟩ := hG.rd
      rw [foldP_end] at hrd hX7
      have hgl : (foldG m).length = m.length := by unfold foldG; rw [List.length_map]
      rw [hgl] at hX7
      have HGL := hid hgl
      have HRD := hid hrd
      have HNG := hid hng
      have HH3 := hid h3
      have hX2 := keepBox HBW.out HX2.out
      have HL2 := hid (lt_of_heap HX2.out)
      obtain ⟨k0, k1, _, _⟩ := box2 hX7
      obtain ⟨r0, r1, _, _⟩ := box2 hX2
      have HGG := hid hG
      have HX22 := hid hX2
      clear hX7 hX2 hG hrd hng hgl h3
      go_wp2
      refine bodyPost_ret (v := .tuple #[.agg #[.slice ac (colsN m) cc, .slice aG m.length cG], .int .i64 0]) (by simp [results, Try.results13, go_sem, r0, r1]) rfl ?_
      have hbW : But g2 wr ((wr.setCell ⟨g2, 0, none⟩ (.slice ac (colsN m) cc)).setCell ⟨g2, 1, none⟩ (.slice aG m.length cG)) := ((But.refl _ _).set _ _).set _ _
      have hg := HG.out
      have hs1 := HB0.out.size
      have hs2 := HBW.out.size
      have hs7 := HB7.out.size
      refine ⟨HB0.out.trans ((HBW.out.mono HB0.out.size).trans (hbW.below (by omega) (by omega))), ac, cc, aG, cG, ?_, ?_, ?_⟩
      · rw [HLEN.out, HGL.out]
      · refine (HAC.out.but HH3.out (fun b off e => Nat.ne_of_lt (HLT.out b off e))).but hbW fun b off e => ?_
        have h1 := HNA.out b off e
        have h2 := HL2.out
        have h3 := lt_of_heap HX2.out
        omega
      · obtain ⟨a9, c9, e9, hrd9, _⟩ := (HGG.out.but hbW ⟨_, _, HX22.out, by decide, by decide⟩).rd
        rw [foldP_end] at e9 hrd9
        injection e9 with e1 e2 e3
        subst e1
        exact hrd9

set_option maxRecDepth 100000 in
set_option maxHeartbeats 4000000 in
theorem Fold_any (m : List (List Int)) (a : Option Addr) (cap : Nat) (w : World) (hl : RdM w a m) (hlen : m.length ≤ 1000000) (hrl : ∀ r, r ∈ m → r.length ≤ 1000000) :
    Calls Try.prog 13 #[.slice a m.length cap] w (FoldRet (foldC m) (foldV m) (chkM m) w) := by
  by_cases hE : chkM m = 0
  · exact fold_ok m a cap w hl hE
  · have HL := hid hl; clear hl
    have HR := hid hrl; clear hrl
    have hv : foldC m = [] ∧ foldV m = [] := ⟨by unfold foldC; rw [if_neg hE], by unfold foldV; rw [if_neg hE]⟩
    rw [hv.1, hv.2]
    have hne : (chkM m == 0) = false := by rw [beq_eq_false_iff_ne]; exact hE
    have HB0 := hid (bnew w (.cells #[.slice none 0 0, .slice none 0 0] 53))
    clear hE hv
    go_enter Try.func13, Try.ntmps13
    go_wp2_with (go_at_call 20; refine (check_any m a cap _ (HL.out.below HB0.out) hlen HR.out).mono ?_; rintro e w' ⟨rfl, rfl⟩)
    exact bodyPost_ret (v := .tuple #[.agg #[.slice none 0 0, .slice none 0 0], .int .i64 (chkM m)]) (by simp [results, Try.results13, go_sem]) rfl ⟨HB0.out, none, 0, none, 0, rfl, fun i hi => absurd hi (Nat.not_lt_zero _), fun i hi => absurd hi (Nat.not_lt_zero _)⟩
end Go.Proofs.Ytecpkjhfbmchgaa
