/- Clashes, colours: what stands apart. IndexFunc and ContainsFunc of pairs; the question of RegsApart. -/
import Derived.Test.YtgalekifgnecjaaGreatL4
import Derived.Test.YtgalekifgnecjaaGreatS7
import Derived.BigQuiet
namespace Go.Proofs.YtgalekifgnecjaaGreat
open Go.RowKit

open Go.RowKit Go.Shelf
theorem colsI_at (cl : List (Int × Int)) {i n : Nat} (h : i < n) : (colsI cl n)[i]'(by rw [colsI_length]; exact h) = (colN cl (colsTo cl i) i : Int) := by
  unfold colsI
  rw [List.getElem_map, colsTo_get cl h]
theorem clB_of {cl : List (Int × Int)} {p : Int × Int} (hp : p ∈ cl) (h : p.1 < p.2) : clB cl p.2 p.1 = true := by
  unfold clB pairP
  rw [List.contains_iff_mem, show min p.2 p.1 = p.1 by omega, show max p.2 p.1 = p.2 by omega]
  exact hp
/-- Clashing slots have different colours. -/
theorem cols_ne {n : Nat} {cl : List (Int × Int)} (hg : ∀ p ∈ cl, 0 ≤ p.1 ∧ p.1 < p.2 ∧ p.2 < (n : Int)) {p : Int × Int} (hp : p ∈ cl) :
    ∃ (h1 : p.1.toNat < (colsI cl n).length) (h2 : p.2.toNat < (colsI cl n).length), (colsI cl n)[p.1.toNat] ≠ (colsI cl n)[p.2.toNat] := by
  obtain ⟨h0, h1, h2⟩ := hg p hp
  have l1 : p.1.toNat < n := by omega
  have l2 : p.2.toNat < n := by omega
  refine ⟨by rw [colsI_length]; exact l1, by rw [colsI_length]; exact l2, ?_⟩
  rw [colsI_at cl l1, colsI_at cl l2]
  intro e
  have hb := (colN_spec cl (colsTo cl p.2.toNat) (p.2.toNat : Int)).2
  unfold colBad at hb
  rw [List.any_eq_false] at hb
  refine hb ((p.1.toNat : Int), (colN cl (colsTo cl p.1.toNat) p.1.toNat : Int)) (colsTo_mem.2 ⟨p.1.toNat, by omega, rfl⟩) ?_
  rw [Bool.and_eq_true]
  refine ⟨by simpa using e, ?_⟩
  have e1 : ((p.1.toNat : Nat) : Int) = p.1 := by omega
  have e2 : ((p.2.toNat : Nat) : Int) = p.2 := by omega
  show clB cl (p.2.toNat : Int) (p.1.toNat : Int) = true
  rw [e1, e2]
  exact clB_of hp h1
/-- Ahead of a slot each lesser colour is had by a clashing one. -/
theorem cols_less {n : Nat} {cl : List (Int × Int)} {i j : Nat} (hi : i < n) (hj : (j : Int) < (colsI cl n)[i]'(by rw [colsI_length]; exact hi)) :
    ∃ t : Nat, t < i ∧ ((t : Int), (i : Int)) ∈ cl ∧ ∃ h : t < (colsI cl n).length, (colsI cl n)[t] = (j : Int) := by
  rw [colsI_at cl hi] at hj
  have hb := (colN_spec cl (colsTo cl i) (i : Int)).1 j (by omega)
  unfold colBad at hb
  rw [List.any_eq_true] at hb
  obtain ⟨x, hx, hc⟩ := hb
  obtain ⟨t, ht, rfl⟩ := colsTo_mem.1 hx
  rw [Bool.and_eq_true] at hc
  refine ⟨t, ht, ?_, by rw [colsI_length]; omega, ?_⟩
  · have h2 := hc.2
    unfold clB pairP at h2
    rw [List.contains_iff_mem] at h2
    have e1 : min (i : Int) (t : Int) = (t : Int) := by omega
    have e2 : max (i : Int) (t : Int) = (i : Int) := by omega
    simp only [e1, e2] at h2
    exact h2
  · rw [colsI_at cl (by omega)]
    simpa using hc.1
theorem many_lt : ∀ (l : List (Int × Int)) (m : Int), m ≤ l.foldl (fun m x => max m (x.2 + 1)) m ∧ ∀ x ∈ l, x.2 < l.foldl (fun m x => max m (x.2 + 1)) m
  | [], m => ⟨Int.le_refl _, fun x hx => by cases hx⟩
  | y :: l, m => by
    obtain ⟨h1, h2⟩ := many_lt l (max m (y.2 + 1))
    refine ⟨by simp only [List.foldl_cons]; omega, fun x hx => ?_⟩
    rcases List.mem_cons.1 hx with rfl | hx
    · simp only [List.foldl_cons]; omega
    · exact h2 x hx
theorem cols_in {n : Nat} {cl : List (Int × Int)} {i : Nat} (hi : i < n) : 0 ≤ (colsI cl n)[i]'(by rw [colsI_length]; exact hi) ∧ (colsI cl n)[i]'(by rw [colsI_length]; exact hi) < manyL (colsTo cl n) := by
  rw [colsI_at cl hi]
  exact ⟨by omega, (many_lt (colsTo cl n) 0).2 ((i : Int), (colN cl (colsTo cl i) i : Int)) (colsTo_mem.2 ⟨i, hi, rfl⟩)⟩
/-- What the check accepts keeps clashing slots apart. -/
theorem chk_apart {u v : UntN} {h t : List Int} (hw : writB u = true) (hc : chkRegs u v h t = 0) : (h.length : Int) = u.slots ∧ ∀ p ∈ clashL u, ∃ (h1 : p.1.toNat < h.length) (h2 : p.2.toNat < h.length), h[p.1.toNat] ≠ h[p.2.toNat] := by
  unfold chkRegs at hc
  rw [if_pos hw] at hc
  have hs : standB u v h t = true := by
    by_cases hs : standB u v h t = true
    · exact hs
    · rw [if_neg hs] at hc; cases hc
  unfold standB at hs
  simp only [Bool.and_eq_true] at hs
  have hh := hs.1.1
  have hl := (homed_ok hw hh).hl
  refine ⟨hl, fun p hp => ?_⟩
  obtain ⟨h0, h1, h2⟩ := (clashL_good hw).2 p hp
  have l1 : p.1.toNat < h.length := by omega
  have l2 : p.2.toNat < h.length := by omega
  refine ⟨l1, l2, ?_⟩
  rw [homedB_eq] at hh
  simp only [Bool.and_eq_true, List.all_eq_true, List.mem_range] at hh
  have ho := hh.1.2 p.2.toNat l2
  unfold homOne at ho
  simp only [Bool.and_eq_true, List.all_eq_true, List.mem_range] at ho
  have hx := ho.2 p.1.toNat (by omega)
  have e1 : ((p.1.toNat : Nat) : Int) = p.1 := by omega
  have e2 : ((p.2.toNat : Nat) : Int) = p.2 := by omega
  rw [e1, e2, clB_of hp h1] at hx
  intro e
  unfold homeN at hx
  simp only [List.getD_eq_getElem?_getD, List.getElem?_eq_getElem l1, List.getElem?_eq_getElem l2, Option.getD_some] at hx
  simp [e] at hx

open Go.RowKit Go.Shelf
attribute [local go_sem] Oper.semAt_some
attribute [local irreducible] wpStill
abbrev vP (p : Int × Int) : Value := .agg #[.int .i64 p.1, .int .i64 p.2]
def PredP (F : Nat) (lb : Array Value) (p : Int × Int → Bool) (l : List (Int × Int)) (w : World) : Prop := ∀ x, x ∈ l → ∀ w', Below w.heap.size w w' → Calls Tryz.prog F (#[vP x] ++ lb) w' (RetB (.bool (p x)) w')
set_option maxHeartbeats 1000000 in
theorem indexP (F : Nat) (eg : Enters F) (lb : Array Value) (p : Int × Int → Bool) (l : List (Int × Int)) (a : Option Addr) (cap : Nat) (w : World) (hk : PredP F lb p l w) (hl : RdX encP w a l) (hll : l.length ≤ 1000000) :
    Calls Tryz.prog 68 #[.slice a l.length cap, .func (.func F) #[] lb] w (RetB (.int .i64 (idxP p l)) w) := by
  have HL := hid hl; clear hl
  have HK := hid hk; clear hk
  have heg : ∀ args w, (callFunc F args).run Tryz.prog w = .ok (.enter F args) w := eg
  clear eg
  go_enter Tryz.func68, Tryz.ntmps68
  go_wp2
  go_loopg [8] l.length (fun gh s8 wr => ∃ j : Nat, j ≤ l.length ∧ gh = l.length - j ∧ s8 = .int .i64 j ∧ Hid (∀ x, x ∈ l.take j → p x = false) ∧ Hid (Below w.heap.size w wr))
  case atStart => exact ⟨0, Nat.zero_le _, rfl, rfl, hid (by simp), hid (Below.refl _ _)⟩
  case round =>
    obtain ⟨j, hj, rfl, rfl, HQ, HB⟩ := hrel
    by_cases hlj : j < l.length
    · obtain ⟨b2, off, ha, hlt2, h⟩ := (HL.out.below HB.out) j hlj
      have h0 : wr.cell? ⟨b2, off + j * 2, none⟩ = some (.int .i64 l[j].1) := h 0 _ rfl
      have h1 : wr.cell? ⟨b2, off + j * 2 + 1, none⟩ = some (.int .i64 l[j].2) := h 1 _ rfl
      subst ha
      clear h
      have nj : (j : Int) < (l.length : Int) := by omega
      have HG := hid (idxP_some (p := p) (l := l) (i := j) hlj)
      have HT : Hid (l.take (j + 1) = l.take j ++ [l[j]]) := hid (take_last hlj)
      have HKG := hid (HK.out l[j] (List.getElem_mem hlj) wr HB.out)
      generalize l[j] = g at *
      cases hg : p g with
      | true =>
        rw [hg] at HKG
        have HE := hid (HG.out hg HQ.out)
        clear hg
        go_wp2
        refine HKG.out.mono ?_
        rintro e w' ⟨rfl, hb⟩
        have HB2 := hid (HB.out.step hb)
        clear hb
        go_wp2
        go_ret
        exact ⟨ret_int HE.out.symm, HB2.out⟩
      | false =>
        rw [hg] at HKG
        have HGF := hid hg
        clear hg
        go_wp2
        refine HKG.out.mono ?_
        rintro e w' ⟨rfl, hb⟩
        have HB2 := hid (HB.out.step hb)
        clear hb
        go_wp2
        go_roundg (l.length - (j + 1))
        case measure => omega
        case rel =>
          refine ⟨j + 1, by omega, rfl, by go_num, hid fun x hx => ?_, HB2⟩
          rw [HT.out, List.mem_append] at hx
          rcases hx with hx | hx
          · exact HQ.out x hx
          · rw [List.mem_singleton.1 hx]; exact HGF.out
    · obtain rfl : j = l.length := by omega
      have HE := hid (idxP_none (p := p) (fun x hx => HQ.out x (by rw [List.take_length]; exact hx)))
      go_wp2
      go_ret
      exact ⟨ret_int HE.out.symm, HB.out⟩
theorem someP (F : Nat) (eg : Enters F) (lb : Array Value) (p : Int × Int → Bool) (l : List (Int × Int)) (a : Option Addr) (cap : Nat) (w : World) (hk : PredP F lb p l w) (hl : RdX encP w a l) (hll : l.length ≤ 1000000) :
    Calls Tryz.prog 22 #[.slice a l.length cap, .func (.func F) #[] lb] w (RetB (.bool (l.any p)) w) := by
  have HI := hid (indexP F eg lb p l a cap w hk hl hll)
  have HA := hid (idxP_any p l)
  clear hk hl eg
  generalize l.any p = r at *
  generalize idxP p l = i at *
  go_enter Tryz.func22, Tryz.ntmps22
  go_wp2_with (go_at_call 68; refine HI.out.mono ?_; rintro e w' ⟨rfl, hb⟩; have HB := hid hb; clear hb)
  go_ret
  exact ⟨ret_bool HA.out, HB.out⟩
set_option maxRecDepth 100000 in
set_option maxHeartbeats 4000000 in
theorem k23 (x : Int × Int) (i j : Int) (L : List Int) (la : Option Addr) (lc bi bl bj : Nat) (w : World) (h1 : w.heap[bi]? = some (.cells #[.int .i64 i] 3)) (h2 : w.heap[bl]? = some (.cells #[.slice la L.length lc] 28)) (h3 : w.heap[bj]? = some (.cells #[.int .i64 j] 3)) (hr : RdI w la L) (hx : 0 ≤ x.1 ∧ x.1 < L.length) (_hl : L.length ≤ 1000000) :
    Calls Tryz.prog 23 #[vP x, .pointer (some ⟨bi, 0, none⟩), .pointer (some ⟨bl, 0, none⟩), .pointer (some ⟨bj, 0, none⟩)] w (RetB (.bool (x.2 == i && L.getD x.1.toNat 0 == j)) w) := by
  obtain ⟨x0, x1⟩ := x
  obtain ⟨k, rfl⟩ : ∃ k : Nat, x0 = (k : Int) := ⟨x0.toNat, by simp at hx; omega⟩
  have hk : k < L.length := by simp at hx; omega
  have HB := hid (bnew w (.cells #[.int .i64 (k : Int), .int .i64 x1] 48))
  have HX := hid (heapn w (.cells #[.int .i64 (k : Int), .int .i64 x1] 48) _ rfl)
  have HE : Hid ((x1 == i && L.getD ((k : Int)).toNat 0 == j) = (x1 == i && L[k] == j)) := hid (by rw [Int.toNat_natCast, getD_in hk])
  obtain ⟨e, he⟩ : ∃ e, e = (x1 == i && L.getD ((k : Int)).toNat 0 == j) := ⟨_, rfl⟩
  show Calls Tryz.prog 23 _ w (RetB (.bool (x1 == i && L.getD ((k : Int)).toNat 0 == j)) w)
  rw [← he] at HE
  rw [← he]
  clear he
  have H1 := hid (keepBox HB.out h1)
  have H2 := hid (keepBox HB.out h2)
  have H3 := hid (keepBox HB.out h3)
  obtain ⟨bh, oh, hha, _, h0⟩ := (hr.below HB.out) k hk
  subst hha
  clear h1 h2 h3 hr hx
  go_enter Tryz.func23, Tryz.ntmps23
  go_upto_region 1 with fail
  have hs : w.heap.size < (w.alloc (.cells #[.int .i64 (k : Int), .int .i64 x1] 48)).heap.size := by simp
  generalize w.alloc (.cells #[.int .i64 (k : Int), .int .i64 x1] 48) = w1 at *
  have c0 : w1.cell? ⟨w.heap.size, 0, none⟩ = some (.int .i64 (k : Int)) := (cell_of_row _ _ 0 _ _ _ HX.out).trans rfl
  have c1 : w1.cell? ⟨w.heap.size, 1, none⟩ = some (.int .i64 x1) := (cell_of_row _ _ 1 _ _ _ HX.out).trans rfl
  have d1 := cellO H1.out
  have d2 := cellO H2.out
  have d3 := cellO H3.out
  have nk : (k : Int) < (L.length : Int) := by omega
  generalize L[k] = y at *
  have HBW := hid (HB.out.step (bdrew w1))
  cases hq : (x1 == i) with
  | true =>
    rw [hq, Bool.true_and] at HE
    go_still_tail 13, (by kernel_rfl)
    change wpList _ _ _ _ _ w1.drew
    go_wp2
    go_ret
    exact ⟨ret_bool HE.out.symm, HBW.out⟩
  | false =>
    rw [hq, Bool.false_and] at HE
    go_still_tail 13, (by kernel_rfl)
    change wpList _ _ _ _ _ w1.drew
    go_wp2
    go_ret
    exact ⟨ret_bool HE.out.symm, HBW.out⟩
theorem enters23 : Enters 23 := enters_of Tryz.func23 (by kernel_rfl) rfl
end Go.Proofs.YtgalekifgnecjaaGreat
