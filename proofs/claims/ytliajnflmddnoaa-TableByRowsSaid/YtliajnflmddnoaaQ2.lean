/- Contracts of the reference's clash and Clash. -/
import Derived.Test.YtliajnflmddnoaaQ1
namespace Go.Proofs.Ytliajnflmddnoaa
open Go.RowKit

set_option maxRecDepth 100000 in
set_option maxHeartbeats 2000000 in
theorem rclash_any (m : List (List Int)) (a : Option Addr) (cap i j : Nat) (w : World) (hm : RightM m) (hl : RdM w a m) (hi : i < colsN m) (hj : j < colsN m) :
    Calls Try.prog 78 #[.slice a m.length cap, .int .i64 i, .int .i64 j] w (RetS (.int .i64 (clashM m i j)) w) := by
  have HL := hid hl; clear hl
  have HM := hid hm; clear hm
  have hlen := HM.out.rows
  go_enter Try.func78, Try.ntmps78
  go_wp2
  go_loop [7] (fun s => ∃ k : Nat, k ≤ m.length ∧ s = .int .i64 k ∧ Hid (∀ x, x ∈ m.take k → cl i j x = false)) (fun s => m.length - (intOf s).toNat)
  case atStart => exact ⟨0, Nat.zero_le _, rfl, hid (by simp)⟩
  case round =>
    obtain ⟨k, hk, rfl, HQ⟩ := hrel
    by_cases hlt : k < m.length
    · have hlt' : (k : Int) < (m.length : Int) := by omega
      obtain ⟨b2, off, ha, hlt2, ak, ck, h4, h5⟩ := HL.out k hlt
      subst ha
      have HT := hid (take_last hlt)
      have HAT : Hid (m[k] = m[k]) := hid rfl
      have hln := HM.out.len k hlt
      obtain ⟨row, hrow⟩ : ∃ row, row = m[k] := ⟨_, rfl⟩
      rw [← hrow] at h4 h5 HT hln
      have HROW := hid hrow
      clear hrow HAT
      obtain ⟨b, off, rfl, hb, hx⟩ := h5.at (i := i) (by omega)
      obtain ⟨b', off', e, _, hy⟩ := h5.at (i := j) (by omega)
      cases e
      have n1 : (i : Int) < (row.length : Int) := by omega
      have n2 : (j : Int) < (row.length : Int) := by omega
      have E : Hid (cl i j row = (nz (row.getD i (-1)) && nz (row.getD j (-1)))) := rfl
      generalize row.getD i (-1) = x at *
      generalize row.getD j (-1) = y at *
      have HLN := hid hln
      clear hln h5
      have hno : cl i j row = false → ∀ z, z ∈ m.take (k + 1) → cl i j z = false := fun hf z hz => by
        rw [HT.out, List.mem_append] at hz
        rcases hz with hz | hz
        · exact HQ.out z hz
        · rw [List.mem_singleton.1 hz]; exact hf
      have HNO := hid hno
      clear hno
      by_cases h1 : x = -1
      · have d1 : (x != -1) = false := by simp [h1]
        have HF := hid (HNO.out (by rw [E.out]; unfold nz; rw [d1]; rfl))
        clear h1
        go_wp2
        go_round
        case rel => exact ⟨k + 1, by omega, by go_num, HF⟩
        case measure => simp [intOf]; omega
      · have d1 : (x != -1) = true := by simp [h1]
        clear h1
        by_cases h2 : y = -1
        · have d2 : (y != -1) = false := by simp [h2]
          have HF := hid (HNO.out (by rw [E.out]; unfold nz; rw [d1, d2]; rfl))
          clear h2
          go_wp2
          go_round
          case rel => exact ⟨k + 1, by omega, by go_num, HF⟩
          case measure => simp [intOf]; omega
        · have d2 : (y != -1) = true := by simp [h2]
          clear h2
          have HF := hid (show cl i j row = true by rw [E.out]; unfold nz; rw [d1, d2]; rfl)
          go_wp2
          go_ret
          exact ⟨ret_int (idxP_some hlt (by rw [← HROW.out]; exact HF.out) HQ.out).symm, rfl⟩
    · go_wp2
      go_ret
      exact ⟨ret_int (idxP_none (fun x hx => HQ.out x (by rw [List.take_of_length_le (by omega)]; exact hx))).symm, rfl⟩

theorem in_cols (m : List (List Int)) (x : Int) : inB x 0 ((colsN m : Int) - 1) = inC m x := by
  unfold inB inC
  rw [Bool.eq_iff_iff]
  simp
  omega

set_option maxRecDepth 100000 in
set_option maxHeartbeats 2000000 in
theorem rClash_bad (m : List (List Int)) (a : Option Addr) (cap : Nat) (x y : Int) (w : World) (hl : RdM w a m) (hlen : m.length ≤ 1000000) (hrl : ∀ r, r ∈ m → r.length ≤ 1000000) (hE : chkM m ≠ 0) :
    Calls Try.prog 40 #[.slice a m.length cap, .int .i64 x, .int .i64 y] w (RetB (.agg #[.int .i64 (clashN m x y), .bool (clashIs m x y), .int .i64 (clashE m x y)]) w) := by
  have HL := hid hl; clear hl
  have HR := hid hrl; clear hrl
  have HB0 := hid (bnew w (.cells #[.int .i64 0, .bool false, .int .i64 0] 77))
  have HX0 := hid (heapn w (.cells #[.int .i64 0, .bool false, .int .i64 0] 77) _ rfl)
  have he : clashE m x y = chkM m := by unfold clashE; rw [if_neg hE]
  have hn : clashN m x y = 0 := by unfold clashN; rw [he, if_neg hE]
  have hi : clashIs m x y = false := by unfold clashIs; rw [he, decide_eq_false hE, Bool.false_and]
  rw [he, hn, hi]
  have hne : (chkM m != 0) = true := by rw [bne_iff_ne]; exact hE
  clear hE he hn hi
  go_enter Try.func40, Try.ntmps40
  go_wp2_with (go_at_call 45; (with_reducible refine (rcheck_any m _ cap _ (HL.out.below HB0.out) hlen HR.out).mono ?_); rintro e w1 ⟨rfl, hb⟩; have HB := hid (HB0.out.step hb); obtain ⟨r0, r1, r2, z0, z1, z2⟩ := box3 (keepBox hb HX0.out); clear hb)
  refine bodyPost_ret (v := .agg #[.int .i64 0, .bool false, .int .i64 (chkM m)]) (by simp [results, Try.results40, go_sem, r0, r1, r2]) rfl ⟨rfl, ((HB.out.setCell (Nat.le_refl _) _).setCell (Nat.le_refl _) _).setCell (Nat.le_refl _) _⟩

set_option maxRecDepth 100000 in
set_option maxHeartbeats 2000000 in
theorem rClash_out (m : List (List Int)) (a : Option Addr) (cap : Nat) (x y : Int) (w : World) (hl : RdM w a m) (hlen : m.length ≤ 1000000) (hrl : ∀ r, r ∈ m → r.length ≤ 1000000) (hE : chkM m = 0) (hin : (inC m x && inC m y) = false) :
    Calls Try.prog 40 #[.slice a m.length cap, .int .i64 x, .int .i64 y] w (RetB (.agg #[.int .i64 (clashN m x y), .bool (clashIs m x y), .int .i64 (clashE m x y)]) w) := by
  have HL := hid hl; clear hl
  have HR := hid hrl; clear hrl
  have HB0 := hid (bnew w (.cells #[.int .i64 0, .bool false, .int .i64 0] 77))
  have HX0 := hid (heapn w (.cells #[.int .i64 0, .bool false, .int .i64 0] 77) _ rfl)
  have he : clashE m x y = 5 := by unfold clashE; rw [if_pos hE, if_neg (by rw [hin]; simp)]
  have hn : clashN m x y = 0 := by unfold clashN; rw [he]; rfl
  have hi : clashIs m x y = false := by unfold clashIs; rw [he]; rfl
  rw [he, hn, hi]
  have hm := chkM_ok hE
  have hcl := hm.cols
  obtain ⟨b0, o0, rfl, hlt0, ai0, ci0, hc0⟩ := HL.out.head hm.some'
  have n0 : (0 : Int) < (m.length : Int) := by have := hm.some'; omega
  have HC0 := hid (cell_later HB0.out hc0)
  have HE := hid hE
  have HX1 := hid (in_cols m x)
  have HY1 := hid (in_cols m y)
  have HIN := hid hin
  generalize inC m x = p at *
  generalize inC m y = q at *
  clear hE he hn hi hm hc0 hin
  cases p with
  | false =>
    go_enter Try.func40, Try.ntmps40
    go_wp2_with (first
      | (go_at_call 45; (with_reducible refine (rcheck_any m _ cap _ (HL.out.below HB0.out) hlen HR.out).mono ?_); rw [HE.out]; rintro e w1 ⟨rfl, hb⟩; have HB := hid (HB0.out.step hb); have hc0 := cell_later hb HC0.out; obtain ⟨r0, r1, r2, z0, z1, z2⟩ := box3 (keepBox hb HX0.out); clear hb)
      | (go_at_call 53; (with_reducible refine (in_any x _ _ _).mono ?_); rw [HX1.out]; rintro e w' ⟨rfl, rfl⟩)
      | (go_at_call 53; (with_reducible refine (in_any y _ _ _).mono ?_); rw [HY1.out]; rintro e w' ⟨rfl, rfl⟩))
    refine bodyPost_ret (v := .agg #[.int .i64 0, .bool false, .int .i64 5]) (by simp [results, Try.results40, go_sem, r0, r1, r2]) rfl ⟨rfl, ((HB.out.setCell (Nat.le_refl _) _).setCell (Nat.le_refl _) _).setCell (Nat.le_refl _) _⟩
  | true =>
    cases q with
    | true => exact absurd HIN.out (by simp)
    | false =>
      go_enter Try.func40, Try.ntmps40
      go_wp2_with (first
        | (go_at_call 45; (with_reducible refine (rcheck_any m _ cap _ (HL.out.below HB0.out) hlen HR.out).mono ?_); rw [HE.out]; rintro e w1 ⟨rfl, hb⟩; have HB := hid (HB0.out.step hb); have hc0 := cell_later hb HC0.out; obtain ⟨r0, r1, r2, z0, z1, z2⟩ := box3 (keepBox hb HX0.out); clear hb)
        | (go_at_call 53; (with_reducible refine (in_any x _ _ _).mono ?_); rw [HX1.out]; rintro e w' ⟨rfl, rfl⟩)
        | (go_at_call 53; (with_reducible refine (in_any y _ _ _).mono ?_); rw [HY1.out]; rintro e w' ⟨rfl, rfl⟩))
      refine bodyPost_ret (v := .agg #[.int .i64 0, .bool false, .int .i64 5]) (by simp [results, Try.results40, go_sem, r0, r1, r2]) rfl ⟨rfl, ((HB.out.setCell (Nat.le_refl _) _).setCell (Nat.le_refl _) _).setCell (Nat.le_refl _) _⟩

set_option maxRecDepth 100000 in
set_option maxHeartbeats 2000000 in
theorem rClash_in (m : List (List Int)) (a : Option Addr) (cap : Nat) (x y : Nat) (w : World) (hl : RdM w a m) (hlen : m.length ≤ 1000000) (hrl : ∀ r, r ∈ m → r.length ≤ 1000000) (hE : chkM m = 0) (hx : x < colsN m) (hy : y < colsN m) :
    Calls Try.prog 40 #[.slice a m.length cap, .int .i64 x, .int .i64 y] w (RetB (.agg #[.int .i64 (clashN m x y), .bool (clashIs m x y), .int .i64 (clashE m x y)]) w) := by
  have HL := hid hl; clear hl
  have HR := hid hrl; clear hrl
  have HB0 := hid (bnew w (.cells #[.int .i64 0, .bool false, .int .i64 0] 77))
  have HX0 := hid (heapn w (.cells #[.int .i64 0, .bool false, .int .i64 0] 77) _ rfl)
  have h1 : inC m x = true := by unfold inC; simp; omega
  have h2 : inC m y = true := by unfold inC; simp; omega
  have he : clashE m x y = 0 := by unfold clashE; rw [if_pos hE, if_pos (by rw [h1, h2]; rfl)]
  have hn : clashN m x y = max (clashM m x y) 0 := by unfold clashN; rw [if_pos he, Int.toNat_natCast, Int.toNat_natCast]
  have hi : clashIs m x y = decide (0 ≤ clashM m x y) := by unfold clashIs; rw [he, Int.toNat_natCast, Int.toNat_natCast]; simp
  rw [he, hn, hi]
  have hm := chkM_ok hE
  have hcl := hm.cols
  obtain ⟨b0, o0, rfl, hlt0, ai0, ci0, hc0⟩ := HL.out.head hm.some'
  have n0 : (0 : Int) < (m.length : Int) := by have := hm.some'; omega
  have HC0 := hid (cell_later HB0.out hc0)
  have HE := hid hE
  have HX1 := hid ((in_cols m x).trans h1)
  have HY1 := hid ((in_cols m y).trans h2)
  have HC := hid (fun w' (hw : RdM w' (some ⟨b0, o0, none⟩) m) => rclash_any m _ cap x y w' hm hw hx hy)
  generalize clashM m x y = z at *
  clear hE he hn hi hm hc0 h1 h2
  by_cases hz : z < 0
  · have e1 : max z 0 = 0 := by omega
    have e2 : decide (0 ≤ z) = false := decide_eq_false (by omega)
    rw [e1, e2]
    clear e1 e2
    go_enter Try.func40, Try.ntmps40
    go_wp2_with (first
      | (go_at_call 45; (with_reducible refine (rcheck_any m _ cap _ (HL.out.below HB0.out) hlen HR.out).mono ?_); rw [HE.out]; rintro e w1 ⟨rfl, hb⟩; have HB := hid (HB0.out.step hb); have HX1' := hid (keepBox hb HX0.out); have hc0 := cell_later hb HC0.out; clear hb)
      | (go_at_call 53; (with_reducible refine (in_any (x : Int) _ _ _).mono ?_); rw [HX1.out]; rintro e w' ⟨rfl, rfl⟩)
      | (go_at_call 53; (with_reducible refine (in_any (y : Int) _ _ _).mono ?_); rw [HY1.out]; rintro e w' ⟨rfl, rfl⟩)
      | (go_at_call 78; (with_reducible refine (HC.out _ (HL.out.below HB.out)).mono ?_); rintro e w2 ⟨rfl, rfl⟩; obtain ⟨r0, r1, r2, z0, z1, z2⟩ := box3 HX1'.out))
    refine bodyPost_ret (v := .agg #[.int .i64 0, .bool false, .int .i64 0]) (by simp [results, Try.results40, go_sem, r0, r1, r2]) rfl ⟨rfl, ((HB.out.setCell (Nat.le_refl _) _).setCell (Nat.le_refl _) _).setCell (Nat.le_refl _) _⟩
  · have e1 : max z 0 = z := by omega
    have e2 : decide (0 ≤ z) = true := decide_eq_true (by omega)
    rw [e1, e2]
    clear e1 e2
    go_enter Try.func40, Try.ntmps40
    go_wp2_with (first
      | (go_at_call 45; (with_reducible refine (rcheck_any m _ cap _ (HL.out.below HB0.out) hlen HR.out).mono ?_); rw [HE.out]; rintro e w1 ⟨rfl, hb⟩; have HB := hid (HB0.out.step hb); have HX1' := hid (keepBox hb HX0.out); have hc0 := cell_later hb HC0.out; clear hb)
      | (go_at_call 53; (with_reducible refine (in_any (x : Int) _ _ _).mono ?_); rw [HX1.out]; rintro e w' ⟨rfl, rfl⟩)
      | (go_at_call 53; (with_reducible refine (in_any (y : Int) _ _ _).mono ?_); rw [HY1.out]; rintro e w' ⟨rfl, rfl⟩)
      | (go_at_call 78; (with_reducible refine (HC.out _ (HL.out.below HB.out)).mono ?_); rintro e w2 ⟨rfl, rfl⟩; obtain ⟨r0, r1, r2, z0, z1, z2⟩ := box3 HX1'.out))
    refine bodyPost_ret (v := .agg #[.int .i64 z, .bool true, .int .i64 0]) (by simp [results, Try.results40, go_sem, r0, r1, r2]) rfl ⟨rfl, ((HB.out.setCell (Nat.le_refl _) _).setCell (Nat.le_refl _) _).setCell (Nat.le_refl _) _⟩

theorem rClash_any (m : List (List Int)) (a : Option Addr) (cap : Nat) (x y : Int) (w : World) (hl : RdM w a m) (hlen : m.length ≤ 1000000) (hrl : ∀ r, r ∈ m → r.length ≤ 1000000) :
    Calls Try.prog 40 #[.slice a m.length cap, .int .i64 x, .int .i64 y] w (RetB (.agg #[.int .i64 (clashN m x y), .bool (clashIs m x y), .int .i64 (clashE m x y)]) w) := by
  by_cases hE : chkM m = 0
  · cases h : (inC m x && inC m y) with
    | false => exact rClash_out m a cap x y w hl hlen hrl hE h
    | true =>
      unfold inC at h
      simp only [Bool.and_eq_true, decide_eq_true_eq] at h
      obtain ⟨⟨hx0, hx1⟩, hy0, hy1⟩ := h
      obtain ⟨x, rfl⟩ : ∃ k : Nat, x = (k : Int) := ⟨x.toNat, by omega⟩
      obtain ⟨y, rfl⟩ : ∃ k : Nat, y = (k : Int) := ⟨y.toNat, by omega⟩
      exact rClash_in m a cap x y w hl hlen hrl hE (by omega) (by omega)
  · exact rClash_bad m a cap x y w hl hlen hrl hE
end Go.Proofs.Ytliajnflmddnoaa
