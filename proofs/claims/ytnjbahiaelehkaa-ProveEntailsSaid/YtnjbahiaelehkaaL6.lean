/- ProveEntails: the walk. -/
import Derived.Test.YtnjbahiaelehkaaD10
import Derived.Test.YtnjbahiaelehkaaD11
import Derived.Test.YtnjbahiaelehkaaA23
namespace Go.Proofs.Ytnjbahiaelehkaa
open Go.RowKit

theorem prf_short {N : Nat} {l : List AM} {a : AM} {p : List Stp} (h : prfB N l a p = true) : p.length ≤ 400 := by
  unfold prfB sayS at h
  by_cases hl : 1 ≤ p.length ∧ p.length ≤ 400
  · exact hl.2
  · rw [if_neg hl] at h
    cases h
theorem OwnS.later2 {w w' : World} {base : Nat} {v : Value} {S : List Stp} (h : OwnS w base v S) (hb : Below w.heap.size w w') : OwnS w' base v S := own_below h hb
theorem entV_zero {n : Int} {l : List AM} {a : AM} (h : entV n l a = true) : lineN n l a = 0 := by
  unfold entV at h
  by_cases h0 : lineN n l a = 0
  · exact h0
  · rw [if_neg h0] at h
    cases h

set_option maxRecDepth 100000 in
set_option maxHeartbeats 8000000 in
theorem entlaw_any (n : Int) (l : List AM) (A P B Q M : Int) (a : Option Addr) (cap : Nat) (w : World) (hl : Rd w a l) (hlen : l.length ≤ 9223372036854775807) :
    Calls Try.prog 8 #[.int .i64 n, .slice a l.length cap, .agg #[.int .i64 A, .int .i64 P, .int .i64 B, .int .i64 Q, .int .i64 M]] w (RetB (.bool true) w) := by
  have HL := hid hl; clear hl
  have HB := hid (bnew w (.cells #[.int .i64 A, .int .i64 P, .int .i64 B, .int .i64 Q, .int .i64 M] 24))
  have HX : Hid ((w.alloc (.cells #[.int .i64 A, .int .i64 P, .int .i64 B, .int .i64 Q, .int .i64 M] 24)).heap[w.heap.size]? = some (.cells #[.int .i64 A, .int .i64 P, .int .i64 B, .int .i64 Q, .int .i64 M] 24 (0, 0))) := hid (by simp only [heap_alloc_if] <;> simp)
  by_cases hs : l.length ≤ 60
  · have ds : decide (l.length ≤ 60) = true := by simpa using hs
    obtain ⟨k0, k1, k2, k3, k4⟩ := AMat.of (x := ⟨A, P, B, Q, M⟩) HX.out
    simp only [Nat.zero_add] at k0 k1 k2 k3 k4
    obtain ⟨e0, he0⟩ : ∃ e, e = entV n l ⟨A, P, B, Q, M⟩ := ⟨_, rfl⟩
    have HE := hid he0
    clear he0
    go_enter Try.func8, Try.ntmps8
    go_upto_region 4 with (first
      | (go_at_call 16; (with_reducible refine (short_any l a cap _ hlen).mono ?_); rintro e w1 ⟨rfl, rfl⟩)
      | (go_at_call 25; (with_reducible refine (entails_any n l A P B Q M a cap _ (HL.out.below HB.out) (by omega)).mono ?_); rw [← HE.out]; rintro e w1 ⟨rfl, hb⟩; have HB := hid (HB.out.step hb); have HX := hid (keepBox hb HX.out); obtain ⟨k0, k1, k2, k3, k4⟩ := AMat.of (x := ⟨A, P, B, Q, M⟩) HX.out; simp only [Nat.zero_add] at k0 k1 k2 k3 k4; clear hb))
    go_upto_region 5 with (go_at_call 33; (with_reducible refine (rEnt_any n l A P B Q M a cap _ (HL.out.below HB.out) (by omega)).mono ?_); rw [← HE.out]; rintro e w1 ⟨rfl, hb⟩; have HB := hid (HB.out.step hb); have HX := hid (keepBox hb HX.out); clear hb)
    have HB := hid (bmore HB.out (.cells #[.bool e0, .int .i64 (lineN n l ⟨A, P, B, Q, M⟩)] 61))
    have HQ : Hid ((w1.alloc (.cells #[.bool e0, .int .i64 (lineN n l ⟨A, P, B, Q, M⟩)] 61)).heap[w1.heap.size]? = some (.cells #[.bool e0, .int .i64 (lineN n l ⟨A, P, B, Q, M⟩)] 61 (0, 0))) := hid (by simp only [heap_alloc_if] <;> simp)
    have HX := hid (keepBox (bnew w1 (.cells #[.bool e0, .int .i64 (lineN n l ⟨A, P, B, Q, M⟩)] 61)) HX.out)
    generalize w1.alloc (.cells #[.bool e0, .int .i64 (lineN n l ⟨A, P, B, Q, M⟩)] 61) = W1 at *
    generalize w1.heap.size = q1 at *
    obtain ⟨k0, k1, k2, k3, k4⟩ := AMat.of (x := ⟨A, P, B, Q, M⟩) HX.out
    simp only [Nat.zero_add] at k0 k1 k2 k3 k4
    go_upto_region 6 with (go_at_call 34; (with_reducible refine (prove_any n l A P B Q M a cap _ (HL.out.below HB.out) (by omega)).mono ?_); rw [← HE.out]; rintro e w1 ⟨hb, S, v, rfl, hown, hg1, hg2⟩; have HB := hid (HB.out.step hb); have HX := hid (keepBox hb HX.out); have HQ := hid (keepBox hb HQ.out); have HOW := hid hown; have HG := hid (And.intro hg1 hg2); clear hown hg1 hg2; clear hb)
    obtain ⟨s0, s1, _, _⟩ := box2 HQ.out
    cases e0 with
    | true =>
      have h0 := entV_zero HE.out.symm
      have hg := HG.out.1 rfl n.toNat
      have hprf : prfN n l ⟨A, P, B, Q, M⟩ S = 0 := by unfold prfN; rw [if_pos h0, if_pos hg]
      have hsl := prf_short hg
      have HPR := hid hprf
      obtain ⟨a10, c10, hv10, hr10⟩ := HOW.out.rd
      subst hv10
      have HS := hid hr10
      clear h0 hg hprf hr10 HOW
      go_wp2_with (first
        | (go_at_call 17; (refine (sanity_any _).mono ?_); rintro e w1 ⟨rfl, hb⟩; have HB := hid (HB.out.step hb); have HX := hid (keepBox hb HX.out); have HQ := hid (keepBox hb HQ.out); have HS := hid (HS.out.below hb); obtain ⟨k0, k1, k2, k3, k4⟩ := AMat.of (x := ⟨A, P, B, Q, M⟩) HX.out; simp only [Nat.zero_add] at k0 k1 k2 k3 k4; clear hb)
        | (go_at_call 35; (with_reducible refine (rcheckprf_any n l A P B Q M S a a10 cap c10 _ (HL.out.below HB.out) HS.out (by omega) (by omega)).mono ?_); rw [HPR.out]; rintro e w1 ⟨rfl, hb⟩; have HB := hid (HB.out.step hb); clear hb))
      go_ret
      exact ⟨rfl, HB.out⟩
    | false =>
      have hS := HG.out.2 rfl
      subst hS
      obtain ⟨a10, c10, hv10, hr10⟩ := HOW.out.rd
      subst hv10
      clear hr10 HOW
      go_wp2_with (go_at_call 17; (refine (sanity_any _).mono ?_); rintro e w1 ⟨rfl, hb⟩; have HB := hid (HB.out.step hb); clear hb)
      go_ret
      exact ⟨rfl, HB.out⟩
  · have ds : decide (l.length ≤ 60) = false := by simpa using hs
    go_enter Try.func8, Try.ntmps8
    go_wp2_with (first
      | (go_at_call 16; (with_reducible refine (short_any l a cap _ hlen).mono ?_); rintro e w1 ⟨rfl, rfl⟩)
      | (go_at_call 17; (refine (sanity_any _).mono ?_); rintro e w1 ⟨rfl, hb⟩; have HB := hid (HB.out.step hb); clear hb))
    go_ret
    exact ⟨rfl, HB.out⟩
end Go.Proofs.Ytnjbahiaelehkaa
