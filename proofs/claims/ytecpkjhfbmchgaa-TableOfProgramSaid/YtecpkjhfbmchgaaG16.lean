/- Contracts of has, look, Look and Spare of package table. -/
import Derived.Test.YtecpkjhfbmchgaaG15
namespace Go.Proofs.Ytecpkjhfbmchgaa
open Go.RowKit

set_option maxRecDepth 100000 in
set_option maxHeartbeats 4000000 in
theorem has_any (L : Ld) (hf : Fit L) (r : Int) (sa : Option Addr) (sc : Nat) (ca : Option Addr) (cc : Nat) (w : World) (hm : LdM w L sa sc ca cc) :
    Calls Try.prog 23 #[vL L sa sc ca cc, .int .i64 r] w (RetB (.int .i64 (hasE L r)) w) := by
  have HM := hid hm; clear hm
  have HB0 := hid (bnew w (.cells #[.int .i64 L.cols, .slice sa L.starts.length sc, .slice ca L.cells.length cc] 38))
  have HX0 := hid (heapn w (.cells #[.int .i64 L.cols, .slice sa L.starts.length sc, .slice ca L.cells.length cc] 38) _ rfl)
  have HC := hid (checkL_any L hf sa sc ca cc (w.alloc (.cells #[.int .i64 L.cols, .slice sa L.starts.length sc, .slice ca L.cells.length cc] 38)) (HM.out.below HB0.out))
  have hsl := hf.s
  clear hf
  by_cases hE : chkL L = 0
  · have HR := hid (chkL_ok hE)
    rw [hE] at HC
    by_cases h1 : r < 0
    · have HV : Hid (hasE L r = 5) := hid (by unfold hasE; rw [if_pos hE, if_neg (by omega)])
      clear hE
      obtain ⟨k0, k1, k2, _, _, _⟩ := box3 HX0.out
      go_enter Try.func23, Try.ntmps23
      go_wp2_with (go_at_call 28; refine HC.out.mono ?_; rintro e w1 ⟨rfl, hb⟩; obtain ⟨k0, k1, k2, _, _, _⟩ := box3 (keepBox hb HX0.out); have HB := hid (HB0.out.step hb); clear hb)
      go_ret
      exact ⟨ret_int HV.out.symm, HB.out⟩
    · by_cases h2 : (L.starts.length : Int) ≤ r
      · have HV : Hid (hasE L r = 5) := hid (by unfold hasE; rw [if_pos hE, if_neg (by omega)])
        clear hE
        obtain ⟨k0, k1, k2, _, _, _⟩ := box3 HX0.out
        go_enter Try.func23, Try.ntmps23
        go_wp2_with (go_at_call 28; refine HC.out.mono ?_; rintro e w1 ⟨rfl, hb⟩; obtain ⟨k0, k1, k2, _, _, _⟩ := box3 (keepBox hb HX0.out); have HB := hid (HB0.out.step hb); clear hb)
        go_ret
        exact ⟨ret_int HV.out.symm, HB.out⟩
      · obtain ⟨r, rfl⟩ : ∃ k : Nat, r = (k : Int) := ⟨r.toNat, by omega⟩
        have hr : r < L.starts.length := by omega
        obtain ⟨bs, os, hsa, hlts, h5⟩ := HM.out.rs.at hr
        have hst : L.starts.getD r (-1) = L.st r := rfl
        rw [hst] at h5
        have H5 := hid h5
        clear hst h5
        have hv : hasE L r = if 0 ≤ L.st r then 0 else 5 := by
          unfold hasE
          rw [if_pos hE, Int.toNat_natCast]
          by_cases h : 0 ≤ L.st r
          · rw [if_pos h, if_pos ⟨by omega, by omega, h⟩]
          · rw [if_neg h, if_neg (fun h' => h h'.2.2)]
        rw [hv]
        clear hE hv
        subst hsa
        generalize L.st r = s at *
        by_cases h3 : 0 ≤ s
        · rw [if_pos h3]
          have h3' : ¬ s < 0 := by omega
          obtain ⟨k0, k1, k2, _, _, _⟩ := box3 HX0.out
          go_enter Try.func23, Try.ntmps23
          go_wp2_with (go_at_call 28; refine HC.out.mono ?_; rintro e w1 ⟨rfl, hb⟩; obtain ⟨k0, k1, k2, _, _, _⟩ := box3 (keepBox hb HX0.out); have k5 := cell_later hb (cell_later HB0.out H5.out); have HB := hid (HB0.out.step hb); clear hb)
          go_ret
          exact ⟨rfl, HB.out⟩
        · rw [if_neg h3]
          have h3' : s < 0 := by omega
          obtain ⟨k0, k1, k2, _, _, _⟩ := box3 HX0.out
          go_enter Try.func23, Try.ntmps23
          go_wp2_with (go_at_call 28; refine HC.out.mono ?_; rintro e w1 ⟨rfl, hb⟩; obtain ⟨k0, k1, k2, _, _, _⟩ := box3 (keepBox hb HX0.out); have k5 := cell_later hb (cell_later HB0.out H5.out); have HB := hid (HB0.out.step hb); clear hb)
          go_ret
          exact ⟨rfl, HB.out⟩
  · have HV : Hid (hasE L r = chkL L) := hid (by unfold hasE; rw [if_neg hE])
    have hne : (chkL L == 0) = false := by rw [beq_eq_false_iff_ne]; exact hE
    clear hE
    obtain ⟨k0, k1, k2, _, _, _⟩ := box3 HX0.out
    go_enter Try.func23, Try.ntmps23
    go_wp2_with (go_at_call 28; refine HC.out.mono ?_; rintro e w1 ⟨rfl, hb⟩; have HB := hid (HB0.out.step hb); clear hb)
    go_ret
    exact ⟨ret_int HV.out.symm, HB.out⟩

theorem kind_ours {C : List (Int × Int)} {p r : Nat} : (kindV C p (r : Int) == 1) = decide ((C.getD p (-1, 0)).1 = (r : Int)) := by
  unfold kindV
  by_cases h : C.getD p (-1, 0) = (-1, 0)
  · rw [if_pos h, h]
    simp
  · rw [if_neg h]
    by_cases h2 : (C.getD p (-1, 0)).1 = (r : Int)
    · rw [if_pos h2, decide_eq_true h2]; rfl
    · rw [if_neg h2, decide_eq_false h2]; rfl

set_option maxRecDepth 100000 in
set_option maxHeartbeats 4000000 in
theorem look_any (L : Ld) (hf : Fit L) (r c s : Nat) (hr : r < L.starts.length) (hs : L.st r = s) (hs2 : s ≤ 50000) (hc : c ≤ 50000) (sa : Option Addr) (sc : Nat) (ca : Option Addr) (cc : Nat) (w : World) (hm : LdM w L sa sc ca cc) :
    Calls Try.prog 24 #[vL L sa sc ca cc, .int .i64 r, .int .i64 c] w (RetB (.int .i64 (lookN L r c)) w) := by
  have HM := hid hm; clear hm
  have HB0 := hid (bnew w (.cells #[.int .i64 L.cols, .slice sa L.starts.length sc, .slice ca L.cells.length cc] 38))
  have HX0 := hid (heapn w (.cells #[.int .i64 L.cols, .slice sa L.starts.length sc, .slice ca L.cells.length cc] 38) _ rfl)
  have hsl := hf.s
  have hcl := hf.c
  have HK := hid (kind_any L.cells ca cc (s + c) r (w.alloc (.cells #[.int .i64 L.cols, .slice sa L.starts.length sc, .slice ca L.cells.length cc] 38)) (HM.out.rc.below HB0.out) (by omega) (by omega))
  have HKO := kind_ours (C := L.cells) (p := s + c) (r := r)
  have HV : Hid (lookN L r c = if (L.cell (s + c)).1 = r then (L.cell (s + c)).2 else -1) := hid (by unfold lookN; rw [hs, Int.toNat_natCast])
  obtain ⟨bs, os, hsa, hlts, h5⟩ := HM.out.rs.at hr
  have hst : L.starts.getD r (-1) = L.st r := rfl
  rw [hst, hs] at h5
  have h5' := cell_later HB0.out h5
  have hcell : L.cells.getD (s + c) (-1, 0) = L.cell (s + c) := rfl
  rw [hcell] at HKO
  have nr : (r : Int) < (L.starts.length : Int) := by omega
  clear hst hcell hf hs h5
  subst hsa
  by_cases hx : (L.cell (s + c)).1 = r
  · have hlt : s + c < L.cells.length := by
      rcases Nat.lt_or_ge (s + c) L.cells.length with h | h
      · exact h
      · unfold Ld.cell at hx
        rw [List.getD_eq_getElem?_getD, List.getElem?_eq_none h] at hx
        simp at hx
    rw [decide_eq_true hx] at HKO
    have HKO2 := hid HKO
    obtain ⟨bc, oc, hca, hltc, h6, h7⟩ := HM.out.rc.at hlt
    have hcell : L.cells.getD (s + c) (-1, 0) = L.cell (s + c) := rfl
    rw [hcell] at h6 h7
    have hv : Hid (lookN L r c = (L.cell (s + c)).2) := hid (by rw [HV.out, if_pos hx])
    have H6 := hid h6
    have H7 := hid h7
    have n3 : ((s : Int) + (c : Int)) < (L.cells.length : Int) := by omega
    clear hcell HV h6 h7
    subst hca
    generalize (L.cell (s + c)).2 = y at *
    generalize (L.cell (s + c)).1 = x at *
    generalize kindV L.cells (s + c) r = kv at *
    have hkv : (kv == 1) = true := HKO2.out
    clear HKO
    obtain ⟨k0, k1, k2, _, _, _⟩ := box3 HX0.out
    clear hx
    go_enter Try.func24, Try.ntmps24
    go_wp2_with (go_at_call 33; refine HK.out.mono ?_; rintro e w1 ⟨rfl, hb⟩; obtain ⟨k0, k1, k2, _, _, _⟩ := box3 (keepBox hb HX0.out); have k7 := cell_later hb (cell_later HB0.out H7.out); have HB := hid (HB0.out.step hb); clear hb)
    go_ret
    exact ⟨ret_int hv.out.symm, HB.out⟩
  · rw [decide_eq_false hx] at HKO
    have HKO2 := hid HKO
    have hv : Hid (lookN L r c = -1) := hid (by rw [HV.out, if_neg hx])
    clear HV
    generalize kindV L.cells (s + c) r = kv at *
    have hkv : (kv == 1) = false := HKO2.out
    clear HKO hx
    obtain ⟨k0, k1, k2, _, _, _⟩ := box3 HX0.out
    go_enter Try.func24, Try.ntmps24
    go_wp2_with (go_at_call 33; refine HK.out.mono ?_; rintro e w1 ⟨rfl, hb⟩; have HB := hid (HB0.out.step hb); clear hb)
    go_ret
    exact ⟨ret_int hv.out.symm, HB.out⟩

set_option maxRecDepth 100000 in
set_option maxHeartbeats 4000000 in
theorem Look_any (L : Ld) (hf : Fit L) (r c : Int) (sa : Option Addr) (sc : Nat) (ca : Option Addr) (cc : Nat) (w : World) (hm : LdM w L sa sc ca cc) :
    Calls Try.prog 8 #[vL L sa sc ca cc, .int .i64 r, .int .i64 c] w (Ret2 (.int .i64 (lookV L r c)) (.int .i64 (lookE L r c)) w) := by
  have HM := hid hm; clear hm
  have HF := hid hf; clear hf
  have HB0 := hid (bnew w (.cells #[.int .i64 L.cols, .slice sa L.starts.length sc, .slice ca L.cells.length cc] 38))
  have HX0 := hid (heapn w (.cells #[.int .i64 L.cols, .slice sa L.starts.length sc, .slice ca L.cells.length cc] 38) _ rfl)
  have HC := hid (has_any L HF.out r sa sc ca cc (w.alloc (.cells #[.int .i64 L.cols, .slice sa L.starts.length sc, .slice ca L.cells.length cc] 38)) (HM.out.below HB0.out))
  obtain ⟨k0, k1, k2, _, _, _⟩ := box3 HX0.out
  by_cases hE : hasE L r = 0
  · rw [hE] at HC
    by_cases h1 : 0 ≤ c ∧ c < L.cols
    · have HV : Hid (lookE L r c = 0 ∧ lookV L r c = lookN L r.toNat c.toNat) := by
        have e : lookE L r c = 0 := by unfold lookE; rw [if_pos hE, if_pos h1]
        exact hid ⟨e, by unfold lookV; rw [if_pos e]⟩
      have h0 : chkL L = 0 := by
        unfold hasE at hE
        split at hE
        · assumption
        · rename_i h; exact absurd hE h
      have hR := chkL_ok h0
      unfold hasE at hE
      rw [if_pos h0] at hE
      have hr : 0 ≤ r ∧ r < L.starts.length ∧ 0 ≤ L.st r.toNat := by
        split at hE
        · assumption
        · cases hE
      obtain ⟨hr0, hr1, hr2⟩ := hr
      obtain ⟨r, rfl⟩ : ∃ k : Nat, r = (k : Int) := ⟨r.toNat, by omega⟩
      obtain ⟨c, rfl⟩ : ∃ k : Nat, c = (k : Int) := ⟨c.toNat, by omega⟩
      rw [Int.toNat_natCast] at hr2
      rw [Int.toNat_natCast, Int.toNat_natCast] at HV
      obtain ⟨s, hs⟩ : ∃ s : Nat, L.st r = s := ⟨(L.st r).toNat, by omega⟩
      have hss : s ≤ 50000 := by
        have := hR.start r (by omega)
        have := hR.room
        have := hR.col0
        omega
      have hcs : c ≤ 50000 := by have := hR.col1; omega
      have HL := hid fun w hm => look_any L HF.out r c s (by omega) hs hss hcs sa sc ca cc w hm
      have hc0 : ¬ (L.cols ≤ (c : Int)) := by omega
      have hc1 : ¬ ((c : Int) < 0) := by omega
      clear hE h1 h0 hR hr0 hr1 hr2 hs
      go_enter Try.func8, Try.ntmps8
      go_wp2_with (first
        | (go_at_call 23; refine HC.out.mono ?_; rintro e w1 ⟨rfl, hb⟩; obtain ⟨k0, k1, k2, _, _, _⟩ := box3 (keepBox hb HX0.out); have HB := hid (HB0.out.step hb); clear hb)
        | (go_at_call 24; refine (HL.out _ (HM.out.below HB.out)).mono ?_; rintro e w2 ⟨rfl, hb⟩; have HB := hid (HB.out.step hb); clear hb))
      go_ret2
      unfold Ret2
      rw [HV.out.1, HV.out.2]
      exact ⟨rfl, HB.out⟩
    · have HV : Hid (lookE L r c = 5 ∧ lookV L r c = 0) := by
        have e : lookE L r c = 5 := by unfold lookE; rw [if_pos hE, if_neg h1]
        exact hid ⟨e, by unfold lookV; rw [e]; rfl⟩
      clear hE
      by_cases h2 : c < 0
      · clear h1
        go_enter Try.func8, Try.ntmps8
        go_wp2_with (go_at_call 23; refine HC.out.mono ?_; rintro e w1 ⟨rfl, hb⟩; obtain ⟨k0, k1, k2, _, _, _⟩ := box3 (keepBox hb HX0.out); have HB := hid (HB0.out.step hb); clear hb)
        go_ret2
        unfold Ret2
        rw [HV.out.1, HV.out.2]
        exact ⟨rfl, HB.out⟩
      · have h3 : L.cols ≤ c := by omega
        clear h1
        go_enter Try.func8, Try.ntmps8
        go_wp2_with (go_at_call 23; refine HC.out.mono ?_; rintro e w1 ⟨rfl, hb⟩; obtain ⟨k0, k1, k2, _, _, _⟩ := box3 (keepBox hb HX0.out); have HB := hid (HB0.out.step hb); clear hb)
        go_ret2
        unfold Ret2
        rw [HV.out.1, HV.out.2]
        exact ⟨rfl, HB.out⟩
  · have HV : Hid (lookE L r c = hasE L r ∧ lookV L r c = 0) := by
      have e : lookE L r c = hasE L r := by unfold lookE; rw [if_neg hE]
      exact hid ⟨e, by unfold lookV; rw [e, if_neg hE]⟩
    have hne : (hasE L r == 0) = false := by rw [beq_eq_false_iff_ne]; exact hE
    clear hE
    go_enter Try.func8, Try.ntmps8
    go_wp2_with (go_at_call 23; refine HC.out.mono ?_; rintro e w1 ⟨rfl, hb⟩; obtain ⟨k0, k1, k2, _, _, _⟩ := box3 (keepBox hb HX0.out); have HB := hid (HB0.out.step hb); clear hb)
    go_ret2
    unfold Ret2
    rw [HV.out.1, HV.out.2]
    exact ⟨rfl, HB.out⟩

theorem k70 (x y : Int) (w : World) : Calls Try.prog 36 #[.agg #[.int .i64 x, .int .i64 y]] w (RetB (.bool (noRow (x, y))) w) := by
  obtain ⟨k0, k1, _, _⟩ := box2 (heapn w (.cells #[.int .i64 x, .int .i64 y] 65) _ rfl)
  go_enter Try.func36, Try.ntmps36
  go_wp2
  go_ret
  exact ⟨rfl, bnew _ _⟩
def cntN (C : List (Int × Int)) (k : Nat) : Nat := (C.take k).countP noRow
theorem cntN_succ {C : List (Int × Int)} {k : Nat} (h : k < C.length) : cntN C (k + 1) = if noRow C[k] = true then cntN C k + 1 else cntN C k := by
  unfold cntN
  rw [take_last h, List.countP_append]
  by_cases hp : noRow C[k] = true
  · simp [hp]
  · simp [hp]
theorem cntN_le (C : List (Int × Int)) (k : Nat) : cntN C k ≤ k := by
  unfold cntN
  exact Nat.le_trans List.countP_le_length (List.length_take_le _ _)

set_option maxRecDepth 100000 in
set_option maxHeartbeats 4000000 in
theorem filter_any (C : List (Int × Int)) (a : Option Addr) (cap : Nat) (w : World) (hc : RdP w a C) (hlen : C.length ≤ 100000) :
    Calls Try.prog 35 #[.slice a C.length cap, .func (.func 36) #[] #[]] w (RetB (.int .i64 (C.countP noRow : Nat)) w) := by
  have HC := hid hc; clear hc
  go_enter Try.func35, Try.ntmps35
  go_wp2
  go_loopg [5, 10] C.length (fun gh s5 s10 wr => ∃ k : Nat, k ≤ C.length ∧ gh = C.length - k ∧ s10 = .int .i64 k ∧ s5 = .int .i64 (cntN C k : Nat) ∧ Hid (Below w.heap.size w wr))
  case atStart => exact ⟨0, Nat.zero_le _, rfl, rfl, rfl, hid (Below.refl _ _)⟩
  case round =>
    obtain ⟨k, hk, rfl, rfl, rfl, HB⟩ := hrel
    by_cases hlt : k < C.length
    · have n1 : (k : Int) < (C.length : Int) := by omega
      obtain ⟨b, off, hca, hltb, h1, h2⟩ := (HC.out.below HB.out).at hlt
      have hcnt := cntN_succ hlt
      rw [← getD_in (d := (-1, 0)) hlt] at hcnt
      generalize C.getD k (-1, 0) = x at *
      obtain ⟨x, y⟩ := x
      simp only at h1 h2
      have HCN := hid hcnt
      have hle := cntN_le C k
      have HK := hid fun w => k70 x y w
      have HBX := hid (heapn wr (.cells #[.int .i64 x, .int .i64 y] 65) _ rfl)
      obtain ⟨k0, k1, _, _⟩ := box2 HBX.out
      have hb1 := hid (HB.out.step (bnew wr (.cells #[.int .i64 x, .int .i64 y] 65)))
      clear hcnt
      subst hca
      cases hn : noRow (x, y) with
      | true =>
        rw [hn] at HK HCN
        clear hn
        go_wp2_with (go_at_call 36; refine (HK.out _).mono ?_; rintro e w1 ⟨rfl, hb⟩; have HB2 := hid (hb1.out.step hb); clear hb)
        go_roundg (C.length - (k + 1))
        case measure => omega
        case rel =>
          refine ⟨k + 1, by omega, rfl, by go_num, ?_, HB2⟩
          rw [HCN.out]
          go_num
      | false =>
        rw [hn] at HK HCN
        clear hn
        go_wp2_with (go_at_call 36; refine (HK.out _).mono ?_; rintro e w1 ⟨rfl, hb⟩; have HB2 := hid (hb1.out.step hb); clear hb)
        go_roundg (C.length - (k + 1))
        case measure => omega
        case rel =>
          refine ⟨k + 1, by omega, rfl, by go_num, ?_, HB2⟩
          rw [HCN.out]
          rfl
    · have hkl : k = C.length := by omega
      subst hkl
      go_wp2
      go_ret
      exact ⟨ret_int (by unfold cntN; rw [List.take_of_length_le (Nat.le_refl _)]), HB.out⟩

set_option maxRecDepth 100000 in
set_option maxHeartbeats 4000000 in
theorem Spare_any (L : Ld) (hf : Fit L) (sa : Option Addr) (sc : Nat) (ca : Option Addr) (cc : Nat) (w : World) (hm : LdM w L sa sc ca cc) :
    Calls Try.prog 17 #[vL L sa sc ca cc] w (Ret2 (.int .i64 (spareV L)) (.int .i64 (chkL L)) w) := by
  have HM := hid hm; clear hm
  have HB0 := hid (bnew w (.cells #[.int .i64 L.cols, .slice sa L.starts.length sc, .slice ca L.cells.length cc] 38))
  have HX0 := hid (heapn w (.cells #[.int .i64 L.cols, .slice sa L.starts.length sc, .slice ca L.cells.length cc] 38) _ rfl)
  have HC := hid (checkL_any L hf sa sc ca cc (w.alloc (.cells #[.int .i64 L.cols, .slice sa L.starts.length sc, .slice ca L.cells.length cc] 38)) (HM.out.below HB0.out))
  have hfc := hf.c
  clear hf
  obtain ⟨k0, k1, k2, _, _, _⟩ := box3 HX0.out
  by_cases hE : chkL L = 0
  · have HV : Hid (spareV L = (L.cells.countP noRow : Nat)) := hid (by unfold spareV; rw [if_pos hE])
    rw [hE] at HC ⊢
    clear hE
    have HF := hid fun w h => filter_any L.cells ca cc w h (by omega)
    go_enter Try.func17, Try.ntmps17
    go_wp2_with (first
      | (go_at_call 28; refine HC.out.mono ?_; rintro e w1 ⟨rfl, hb⟩; obtain ⟨k0, k1, k2, _, _, _⟩ := box3 (keepBox hb HX0.out); have HB := hid (HB0.out.step hb); clear hb)
      | (go_at_call 35; refine (HF.out _ (HM.out.rc.below HB.out)).mono ?_; rintro e w1 ⟨rfl, hb⟩; have HB := hid (HB.out.step hb); clear hb))
    go_ret2
    unfold Ret2
    rw [HV.out]
    exact ⟨rfl, HB.out⟩
  · have HV : Hid (spareV L = 0) := hid (by unfold spareV; rw [if_neg hE])
    have hne : (chkL L == 0) = false := by rw [beq_eq_false_iff_ne]; exact hE
    clear hE
    go_enter Try.func17, Try.ntmps17
    go_wp2_with (go_at_call 28; refine HC.out.mono ?_; rintro e w1 ⟨rfl, hb⟩; have HB := hid (HB0.out.step hb); clear hb)
    go_ret2
    unfold Ret2
    rw [HV.out]
    exact ⟨rfl, HB.out⟩
end Go.Proofs.Ytecpkjhfbmchgaa
