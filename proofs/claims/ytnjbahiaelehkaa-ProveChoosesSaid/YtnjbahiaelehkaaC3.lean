/- sanity of the laws' package. -/
import Derived.Test.YtnjbahiaelehkaaC2
import Derived.Test.YtnjbahiaelehkaaB4
namespace Go.Proofs.Ytnjbahiaelehkaa
open Go.RowKit

theorem poss3 (a : Option Addr) (cap : Nat) (w : World) (hl : Rd w a threeL) : Calls Try.prog 24 #[.int .i64 3, .slice a threeL.length cap] w (Ret2 (.bool true) (.int .i64 0) w) := by
  have h := possible_any 3 threeL a cap w hl (by decide)
  rw [ex_poss.1, check3] at h
  exact h
theorem poss2 (a : Option Addr) (cap : Nat) (w : World) (hl : Rd w a oddL) : Calls Try.prog 24 #[.int .i64 2, .slice a oddL.length cap] w (Ret2 (.bool false) (.int .i64 0) w) := by
  have h := possible_any 2 oddL a cap w hl (by decide)
  rw [ex_poss.2.1, check2] at h
  exact h
theorem span30 (a : Option Addr) (cap : Nat) (w : World) (hl : Rd w a threeL) : Calls Try.prog 20 #[.int .i64 3, .slice a threeL.length cap, .int .i64 0] w (Ret3 (.int .i64 2) (.int .i64 3) (.int .i64 0) w) := by
  have h := span_any 3 threeL 0 a cap w hl (by decide)
  obtain ⟨e1, e2, e3⟩ := ex_span0
  rw [e1, e2, e3] at h
  exact h
theorem span31 (a : Option Addr) (cap : Nat) (w : World) (hl : Rd w a threeL) : Calls Try.prog 20 #[.int .i64 3, .slice a threeL.length cap, .int .i64 1] w (Ret3 (.int .i64 0) (.int .i64 2) (.int .i64 0) w) := by
  have h := span_any 3 threeL 1 a cap w hl (by decide)
  obtain ⟨e1, e2, e3⟩ := ex_span1
  rw [e1, e2, e3] at h
  exact h
theorem span32 (a : Option Addr) (cap : Nat) (w : World) (hl : Rd w a threeL) : Calls Try.prog 20 #[.int .i64 3, .slice a threeL.length cap, .int .i64 2] w (Ret3 (.int .i64 2) (.int .i64 3) (.int .i64 0) w) := by
  have h := span_any 3 threeL 2 a cap w hl (by decide)
  obtain ⟨e1, e2, e3⟩ := ex_span2
  rw [e1, e2, e3] at h
  exact h
theorem span40 (a : Option Addr) (cap : Nat) (w : World) (hl : Rd w a fourL) : Calls Try.prog 20 #[.int .i64 3, .slice a fourL.length cap, .int .i64 0] w (Ret3 (.int .i64 2) (.int .i64 2) (.int .i64 0) w) := by
  have h := span_any 3 fourL 0 a cap w hl (by decide)
  obtain ⟨e1, e2, e3⟩ := ex_span4
  rw [e1, e2, e3] at h
  exact h
theorem most30 (a : Option Addr) (cap : Nat) (w : World) (hl : Rd w a threeL) : Calls Try.prog 18 #[.int .i64 3, .slice a threeL.length cap, .agg #[.int .i64 0, .int .i64 1, .int .i64 1, .int .i64 1, .int .i64 0]] w (Ret2 (.int .i64 5) (.int .i64 0) w) := by
  have h := most_any 3 threeL 0 1 1 1 0 a cap w hl (by decide)
  obtain ⟨e1, e2, e3, e4⟩ := ex_most
  rw [e1, e2] at h
  exact h
theorem most31 (a : Option Addr) (cap : Nat) (w : World) (hl : Rd w a threeL) : Calls Try.prog 18 #[.int .i64 3, .slice a threeL.length cap, .agg #[.int .i64 1, .int .i64 1, .int .i64 2, .int .i64 1, .int .i64 0]] w (Ret2 (.int .i64 5) (.int .i64 0) w) := by
  have h := most_any 3 threeL 1 1 2 1 0 a cap w hl (by decide)
  obtain ⟨e1, e2, e3, e4⟩ := ex_most
  rw [e3, e4] at h
  exact h
theorem ent30 (a : Option Addr) (cap : Nat) (w : World) (hl : Rd w a threeL) : Calls Try.prog 25 #[.int .i64 3, .slice a threeL.length cap, .agg #[.int .i64 2, .int .i64 1, .int .i64 0, .int .i64 0, .int .i64 3]] w (Ret2 (.bool true) (.int .i64 0) w) := by
  have h := entails_any 3 threeL 2 1 0 0 3 a cap w hl (by decide)
  obtain ⟨e1, e2, e3, e4⟩ := ex_ent
  rw [e1, e2] at h
  exact h
theorem ent31 (a : Option Addr) (cap : Nat) (w : World) (hl : Rd w a threeL) : Calls Try.prog 25 #[.int .i64 3, .slice a threeL.length cap, .agg #[.int .i64 1, .int .i64 1, .int .i64 0, .int .i64 0, .int .i64 1]] w (Ret2 (.bool false) (.int .i64 0) w) := by
  have h := entails_any 3 threeL 1 1 0 0 1 a cap w hl (by decide)
  obtain ⟨e1, e2, e3, e4⟩ := ex_ent
  rw [e3, e4] at h
  exact h
theorem core30 (a : Option Addr) (cap : Nat) (w : World) (hl : Rd w a fiveL) : Calls Try.prog 28 #[.int .i64 3, .slice a fiveL.length cap] w (RetKB w [0, 5] true 0) := by
  have h := core_any 3 fiveL a cap w hl (by decide)
  rw [ex_core.1, ex_core.2, check5] at h
  exact h
theorem refute20 (a : Option Addr) (cap : Nat) (w : World) (hl : Rd w a oddL) : Calls Try.prog 38 #[.int .i64 2, .slice a oddL.length cap] w (PfPost true 0 (fun S => ∀ N, refB N oddL S = true) w) := by
  have h := refute_any 2 oddL a cap w hl (by decide)
  rw [ex_poss.2.2, check2] at h
  exact h

theorem OwnL.snoc {w : World} {base : Nat} {v : Value} {l : List AM} {x : AM} {n : Nat} (hn : n = l.length + 1) (h : w.ownsRow base 24 5 v n (l.flatMap c5 ++ c5 x)) : OwnL w base v (l ++ [x]) := by
  unfold OwnL
  subst hn
  rw [List.length_append, List.length_singleton, List.flatMap_append]
  simpa using h

theorem Rd.new (w : World) (l : List AM) (hl : l.length ≤ 1000) : Rd (w.alloc (.cells (l.flatMap c5).toArray 24)) (some ⟨w.heap.size, 0, none⟩) l := by
  obtain ⟨a, c, he, h⟩ := (OwnL.new w l 0 (Nat.zero_le _) hl).rd
  injection he with h1 _ _
  rw [h1]
  exact h
theorem sayS_len {N : Nat} {l : List AM} {p : List Stp} {s : Sy} (h : sayS N l p = some s) : p.length ≤ 400 := by
  unfold sayS at h
  split at h
  · rename_i h1
    exact h1.2
  · cases h
theorem refB_len {N : Nat} {l : List AM} {p : List Stp} (h : refB N l p = true) : p.length ≤ 400 := by
  unfold refB at h
  cases e : sayS N l p with
  | none => rw [e] at h; cases h
  | some s => exact sayS_len e
theorem prfB_len {N : Nat} {l : List AM} {a : AM} {p : List Stp} (h : prfB N l a p = true) : p.length ≤ 400 := by
  unfold prfB at h
  cases e : sayS N l p with
  | none => rw [e] at h; cases h
  | some s => exact sayS_len e
theorem same05 (a b : Option Addr) (c c' : Nat) (w : World) (h : RdI w a [0, 5]) (h' : RdI w b [0, 5]) : Calls Try.prog 48 #[.slice a 2 c, .slice b 2 c'] w (RetB (.bool true) w) := same_ints [0, 5] [0, 5] a b c c' w h h' (by decide) (by decide)
theorem RdI.new05 (w : World) : RdI (w.alloc (.cells #[.int .i64 0, .int .i64 5] 3)) (some ⟨w.heap.size, 0, none⟩) [0, 5] := by
  intro i hi
  have hi' : i < 2 := hi
  refine ⟨w.heap.size, 0, rfl, by simp, ?_⟩
  rw [celln _ _ _ _ _ rfl]
  match i, hi' with
  | 0, _ => rfl
  | 1, _ => rfl
theorem check20 (S : List Stp) (a b : Option Addr) (c c' : Nat) (w : World) (hl : Rd w a oddL) (hp : RdS w b S) (hg : ∀ N, refB N oddL S = true) : Calls Try.prog 39 #[.int .i64 2, .slice a 4 c, .slice b S.length c'] w (RetB (.int .i64 0) w) := by
  have h := rcheckref_any 2 oddL S a b c c' w hl hp (by decide) (by have := refB_len (hg 2); omega)
  have e : refN 2 oddL S = 0 := by
    unfold refN
    rw [if_pos check2, if_pos (hg _)]
  rw [e] at h
  exact h

set_option maxRecDepth 100000 in
set_option maxHeartbeats 8000000 in
theorem sanity_any (w : World) : Calls Try.prog 17 #[] w (RetB (.bool true) w) := by
  obtain ⟨i4, hj4, hy0, hy1, hy2⟩ := info_parts info24
  have HB := hid (Below.refl w.heap.size w)
  go_enter Try.func17, Try.ntmps17
  go_upto_region 2 with (go_at_call 54; refine (three_any _).mono ?_; rintro e w' ⟨hb, v, rfl, hown⟩; obtain ⟨a, cap, rfl, hrd⟩ := hown.rd; have HRD := hid hrd; have HB := hid (HB.out.step hb); clear hb hrd hown)
  go_upto_region 10 with (first
    | (go_at_call 24; refine (poss3 _ _ _ HRD.out).mono ?_; rintro e w' ⟨rfl, hb⟩; have HRD := hid (HRD.out.below hb); have HB := hid (HB.out.step hb); clear hb)
    | (go_at_call 20; first | with_reducible refine (span30 _ _ _ HRD.out).mono ?_ | with_reducible refine (span31 _ _ _ HRD.out).mono ?_ | with_reducible refine (span32 _ _ _ HRD.out).mono ?_
       rintro e w' ⟨rfl, hb⟩; have HRD := hid (HRD.out.below hb); have HB := hid (HB.out.step hb); clear hb)
    | (go_at_call 55; refine (lline_any _ _ _ _ _ _).mono ?_; rintro e w' ⟨rfl, hb⟩; have HRD := hid (HRD.out.below hb); have HB := hid (HB.out.step hb); clear hb)
    | (go_at_call 18; first | with_reducible refine (most30 _ _ _ HRD.out).mono ?_ | with_reducible refine (most31 _ _ _ HRD.out).mono ?_
       rintro e w' ⟨rfl, hb⟩; have HRD := hid (HRD.out.below hb); have HB := hid (HB.out.step hb); clear hb)
    | (go_at_call 25; first | with_reducible refine (ent30 _ _ _ HRD.out).mono ?_ | with_reducible refine (ent31 _ _ _ HRD.out).mono ?_
       rintro e w' ⟨rfl, hb⟩; have HRD := hid (HRD.out.below hb); have HB := hid (HB.out.step hb); clear hb))
  go_upto_region 11 with (first
    | (go_at_call 54; refine (three_any _).mono ?_; rintro e w' ⟨hb, v, rfl, hown⟩; have HOWN := hid (own_base hown HB.out.size); have HB := hid (HB.out.step hb); clear hb hown)
    | (go_at_call 55; refine (lline_any _ _ _ _ _ _).mono ?_; rintro e w' ⟨rfl, hb⟩; have HOWN := hid (own_later HOWN.out fun b _ hl => hb.block b hl); have HB := hid (HB.out.step hb); clear hb)
    | (at_builtin; refine wpList_append_own _ rfl _ _ 22 rfl w.heap.size 24 i4 _ 5 40 Try.underlying22 hj4 hy0 hy1 hy2 rfl (by decide) _ _ _ rfl (HOWN.out.alloc _) ⟨_, 0, none⟩ 1 1 (c5 ⟨0, 1, 1, 1, 3⟩) rfl rfl (cell_five_new _ _ _ _ _ _ _) (by intro u hu; simp [c5] at hu; rcases hu with rfl | rfl | rfl | rfl | rfl <;> rfl) (by decide) (by decide) (by have := HB.out.size; simp; omega) ?_
       intro v' w3 hown' hgrow hnil; have hb3 := (HB.out.alloc HB.out.size _).grown hgrow (by have := HB.out.size; simp; omega) (own_ge HOWN.out); have ho3 : OwnL w3 w.heap.size v' fourL := OwnL.snoc rfl hown'; obtain ⟨a, cap, rfl, hrd⟩ := ho3.rd; have HRD := hid hrd; have HB := hid hb3; clear hown' hgrow hnil hb3 ho3 hrd)
    | (go_at_call 20; (with_reducible refine (span40 _ _ _ HRD.out).mono ?_); rintro e w' ⟨rfl, hb⟩; have HB := hid (HB.out.step hb); clear hb))
  go_upto_region 12 with (first
    | (go_at_call 54; refine (three_any _).mono ?_; rintro e w' ⟨hb, v, rfl, hown⟩; have HOWN := hid (own_base hown HB.out.size); have HB := hid (HB.out.step hb); clear hb hown)
    | (go_at_call 55; refine (lline_any _ _ _ _ _ _).mono ?_; rintro e w' ⟨rfl, hb⟩; have HOWN := hid (own_later HOWN.out fun b _ hl => hb.block b hl); have HB := hid (HB.out.step hb); clear hb)
    | (at_builtin; refine wpList_append_own _ rfl _ _ 22 rfl w.heap.size 24 i4 _ 5 40 Try.underlying22 hj4 hy0 hy1 hy2 rfl (by decide) _ _ _ rfl (HOWN.out.alloc _) ⟨_, 0, none⟩ 1 1 (c5 ⟨0, -1, 1, -1, -6⟩) rfl rfl (cell_five_new _ _ _ _ _ _ _) (by intro u hu; simp [c5] at hu; rcases hu with rfl | rfl | rfl | rfl | rfl <;> rfl) (by decide) (by decide) (by have := HB.out.size; simp; omega) ?_
       intro v' w3 hown' hgrow hnil; have hb3 := (HB.out.alloc HB.out.size _).grown hgrow (by have := HB.out.size; simp; omega) (own_ge HOWN.out); have ho3 : OwnL w3 w.heap.size v' fiveL := OwnL.snoc rfl hown'; obtain ⟨a, cap, rfl, hrd⟩ := ho3.rd; have HRD := hid hrd; have HB := hid hb3; clear hown' hgrow hnil hb3 ho3 hrd)
    | (go_at_call 28; (with_reducible refine (core30 _ _ _ HRD.out).mono ?_); rintro e w' ⟨hb, v, rfl, hown⟩; obtain ⟨ac, cc, rfl, hrd⟩ := hown.rd; have HRC := hid hrd; have HB := hid (HB.out.step hb); clear hb hrd hown))
  go_upto_region 15 with (go_at_call 55; refine (lline_any _ _ _ _ _ _).mono ?_; rintro e w' ⟨rfl, hb⟩; have HRC := hid (HRC.out.below hb); have HB := hid (HB.out.step hb); clear hb)
  have HRD := hid (Rd.new w' oddL (by decide))
  have HRC := hid (HRC.out.below (bnew w' (.cells (oddL.flatMap c5).toArray 24)))
  have HB := hid (HB.out.step (bnew w' (.cells (oddL.flatMap c5).toArray 24)))
  go_upto_region 17 with (first
    | (go_at_call 24; refine (poss2 _ _ _ HRD.out).mono ?_; rintro e w2 ⟨rfl, hb⟩; have HRD := hid (HRD.out.below hb); have HRC := hid (HRC.out.below hb); have HB := hid (HB.out.step hb); clear hb)
    | (go_at_call 38; refine (refute20 _ _ _ HRD.out).mono ?_; rintro e w2 ⟨hb, S, v, rfl, hown, hgood, hno⟩; obtain ⟨aS, cS, rfl, hrs⟩ := hown.rd; have HRS := hid hrs; have HG := hid (hgood rfl); have HRD := hid (HRD.out.below hb); have HRC := hid (HRC.out.below hb); have HB := hid (HB.out.step hb); clear hb hrs hgood hno hown))
  go_wp2_with (first
    | (go_at_call 48; refine (same05 _ _ _ _ _ (HRC.out.below (bnew _ _)) (RdI.new05 _)).mono ?_; rintro e w3 ⟨rfl, hb⟩; have HRS := hid (HRS.out.below ((bnew _ _).step hb)); have HRD := hid (HRD.out.below ((bnew _ _).step hb)); have HB := hid (HB.out.step ((bnew _ _).step hb)); clear hb)
    | (go_at_call 39; refine (check20 S _ _ _ _ _ HRD.out HRS.out HG.out).mono ?_; rintro e w3 ⟨rfl, hb⟩; have HB := hid (HB.out.step hb); clear hb))
  go_ret
  exact ⟨rfl, HB.out⟩
end Go.Proofs.Ytnjbahiaelehkaa
