/- The reference's Span. -/
import Derived.Test.YtnjbahiaelehkaaD6
namespace Go.Proofs.Ytnjbahiaelehkaa
open Go.RowKit

abbrev hiL (k : Int) : AM := ⟨k, 1, 0, 0, 0⟩
abbrev loL (k : Int) : AM := ⟨k, -1, 0, 0, 0⟩
theorem index_zero {n : Int} {l : List AM} {k : Int} (h0 : indexN n l k = 0) : checkN n l = 0 ∧ inB k 0 (n - 1) = true := by
  unfold indexN at h0
  by_cases hc : checkN n l = 0
  · rw [if_pos hc] at h0
    refine ⟨hc, ?_⟩
    by_cases hk : inB k 0 (n - 1) = true
    · exact hk
    · rw [if_neg hk] at h0; cases h0
  · rw [if_neg hc] at h0
    exact absurd h0 hc
theorem span_by {n : Int} {l : List AM} {k : Int} (h0 : indexN n l k = 0) :
    (mostC n l (hiL k) ≠ 0 → spanE n l k = mostC n l (hiL k) ∧ spanLo n l k = 0 ∧ spanHi n l k = 0) ∧
    (mostC n l (hiL k) = 0 → mostC n l (loL k) ≠ 0 → spanE n l k = mostC n l (loL k) ∧ spanLo n l k = 0 ∧ spanHi n l k = 0) ∧
    (mostC n l (hiL k) = 0 → mostC n l (loL k) = 0 → spanE n l k = 0 ∧ spanLo n l k = -(mostV n l (loL k)) ∧ spanHi n l k = mostV n l (hiL k)) := by
  obtain ⟨hc, hk⟩ := index_zero h0
  have hk' : 0 ≤ k ∧ k ≤ n - 1 := by simpa [inB] using hk
  have r1 : lineN n l (hiL k) = 0 := by
    unfold lineN
    rw [if_pos hc, if_pos]
    simp [rightB]; omega
  have r2 : lineN n l (loL k) = 0 := by
    unfold lineN
    rw [if_pos hc, if_pos]
    simp [rightB]; omega
  have g1 : spanM l k 1 = maxO l (hiL k) := rfl
  have g2 : spanM l k (-1) = maxO l (loL k) := rfl
  unfold spanE spanLo spanHi mostC mostV mostE mostN
  rw [if_pos r1, if_pos r2, if_pos r1, if_pos r2, if_pos h0, g1, g2]
  cases hp : possB l with
  | false => simp
  | true =>
    cases e1 : maxO l (hiL k) with
    | none => cases e2 : maxO l (loL k) <;> simp
    | some x => cases e2 : maxO l (loL k) <;> simp [h0]

/-- What the reference's Span returns. -/
def SpanP (n : Int) (l : List AM) (k : Int) (w : World) (e : Ending) (w' : World) : Prop := e = .returned (.agg #[.int .i64 (spanLo n l k), .int .i64 (spanHi n l k), .int .i64 (spanE n l k)]) ∧ Below w.heap.size w w'

set_option maxRecDepth 100000 in
set_option maxHeartbeats 4000000 in
theorem rSpan_any (n : Int) (l : List AM) (k : Int) (a : Option Addr) (cap : Nat) (w : World) (hl : Rd w a l) (hlen : l.length ≤ 1000000) :
    Calls Try.prog 21 #[.int .i64 n, .slice a l.length cap, .int .i64 k] w (SpanP n l k w) := by
  have HL := hid hl; clear hl
  have HB := hid (bnew w (.cells #[.int .i64 0, .int .i64 0, .int .i64 0] 36))
  have HR : Hid ((w.alloc (.cells #[.int .i64 0, .int .i64 0, .int .i64 0] 36)).heap[w.heap.size]? = some (.cells #[.int .i64 0, .int .i64 0, .int .i64 0] 36 (0, 0))) := hid (by simp only [heap_alloc_if] <;> simp)
  by_cases h0 : checkN n l = 0
  · obtain ⟨⟨hn1, hn2⟩, _, _⟩ := checkN_in h0
    have H0 := hid h0
    by_cases hk : inB k 0 (n - 1) = true
    · have hi : indexN n l k = 0 := by unfold indexN; rw [if_pos h0, if_pos hk]
      have HS := hid (span_by hi)
      have HK := hid hk
      clear h0 hk hi
      go_enter Try.func21, Try.ntmps21
      go_upto_region 7 with (first
        | (go_at_call 32; (with_reducible refine (rcheck_any n l a cap _ (HL.out.below HB.out) (by omega)).mono ?_); rw [H0.out]; rintro e w1 ⟨rfl, hb⟩; have HB := hid (HB.out.step hb); have HR := hid (keepBox hb HR.out); clear hb)
        | (go_at_call 64; (with_reducible refine (in_any k 0 (n - 1) _).mono ?_); rw [HK.out]; rintro e w2 ⟨rfl, rfl⟩))
      go_upto_region 8 with (go_at_call 19; (with_reducible refine (rMost_any n l k 1 0 0 0 a cap _ (HL.out.below HB.out) hlen).mono ?_); rintro e w1 ⟨rfl, hb, m1, m2⟩; have HB := hid (HB.out.step hb); have HR := hid (keepBox hb HR.out); clear hb; clear m1 m2)
      have HB := hid (bmore HB.out (.cells #[.int .i64 (mostV n l (hiL k)), .int .i64 (mostC n l (hiL k))] 31))
      have HQ : Hid ((w1.alloc (.cells #[.int .i64 (mostV n l (hiL k)), .int .i64 (mostC n l (hiL k))] 31)).heap[w1.heap.size]? = some (.cells #[.int .i64 (mostV n l (hiL k)), .int .i64 (mostC n l (hiL k))] 31 (0, 0))) := hid (by simp only [heap_alloc_if] <;> simp)
      have HR := hid (keepBox (bnew _ (.cells #[.int .i64 (mostV n l (hiL k)), .int .i64 (mostC n l (hiL k))] 31)) HR.out)
      generalize w1.alloc (.cells #[.int .i64 (mostV n l (hiL k)), .int .i64 (mostC n l (hiL k))] 31) = W1 at *
      generalize w1.heap.size = q1 at *
      go_upto_region 9 with (go_at_call 19; (with_reducible refine (rMost_any n l k (-1) 0 0 0 a cap _ (HL.out.below HB.out) hlen).mono ?_); rintro e w1 ⟨rfl, hb, m1, m2⟩; have HB := hid (HB.out.step hb); have HR := hid (keepBox hb HR.out); have HQ := hid (keepBox hb HQ.out); clear hb; have MB : Hid (-2000000000 ≤ mostV n l (loL k) ∧ mostV n l (loL k) ≤ RF) := hid ⟨m1, m2⟩; clear m1 m2)
      have HB := hid (bmore HB.out (.cells #[.int .i64 (mostV n l (loL k)), .int .i64 (mostC n l (loL k))] 31))
      have HP : Hid ((w1.alloc (.cells #[.int .i64 (mostV n l (loL k)), .int .i64 (mostC n l (loL k))] 31)).heap[w1.heap.size]? = some (.cells #[.int .i64 (mostV n l (loL k)), .int .i64 (mostC n l (loL k))] 31 (0, 0))) := hid (by simp only [heap_alloc_if] <;> simp)
      have HR := hid (keepBox (bnew _ (.cells #[.int .i64 (mostV n l (loL k)), .int .i64 (mostC n l (loL k))] 31)) HR.out)
      have HQ := hid (keepBox (bnew _ (.cells #[.int .i64 (mostV n l (loL k)), .int .i64 (mostC n l (loL k))] 31)) HQ.out)
      generalize w1.alloc (.cells #[.int .i64 (mostV n l (loL k)), .int .i64 (mostC n l (loL k))] 31) = W2 at *
      generalize w1.heap.size = q2 at *
      obtain ⟨r0, r1, r2, z0, z1, z2⟩ := box3 HR.out
      obtain ⟨p0, p1, _, _⟩ := box2 HP.out
      obtain ⟨s0, s1, _, _⟩ := box2 HQ.out
      obtain ⟨j1, j2, j3⟩ := HS.out
      obtain ⟨E1, hE1⟩ : ∃ E, E = mostC n l (hiL k) := ⟨_, rfl⟩
      obtain ⟨E2, hE2⟩ : ∃ E, E = mostC n l (loL k) := ⟨_, rfl⟩
      obtain ⟨V1, hV1⟩ : ∃ E, E = mostV n l (hiL k) := ⟨_, rfl⟩
      obtain ⟨V2, hV2⟩ : ∃ E, E = mostV n l (loL k) := ⟨_, rfl⟩
      have MB := MB.out
      rw [← hE1, ← hE2, ← hV1, ← hV2] at j3
      rw [← hE1, ← hE2] at j2
      rw [← hE1] at j1
      rw [← hV2] at MB p0
      rw [← hE2] at p1
      rw [← hV1] at s0
      rw [← hE1] at s1
      have J1 := hid j1
      have J2 := hid j2
      have J3 := hid j3
      clear j1 j2 j3 hE1 hE2 hV1 hV2 HP HQ
      obtain ⟨mb1, mb2⟩ := MB
      have mb3 : V2 ≤ 1125899906842624 := mb2
      clear mb2
      by_cases h1 : E1 = 0
      · by_cases h2 : E2 = 0
        · obtain ⟨g1, g2, g3⟩ := J3.out h1 h2
          have G := hid (And.intro g1 (And.intro g2 g3))
          have b1 : (E1 != 0) = false := by simpa using h1
          have b2 : (E2 != 0) = false := by simpa using h2
          clear g1 g2 g3 h1 h2
          go_wp2
          refine bodyPost_ret (v := .agg #[.int .i64 (-V2), .int .i64 V1, .int .i64 0]) (by simp [results, Try.results21, go_sem, r0, r1, r2]) rfl ⟨?_, ((HB.out.setCell (by simp) _).setCell (by simp) _).setCell (by simp) _⟩
          rw [G.out.1, G.out.2.1, G.out.2.2]
        · obtain ⟨g1, g2, g3⟩ := J2.out h1 h2
          have G := hid (And.intro g1 (And.intro g2 g3))
          have b1 : (E1 != 0) = false := by simpa using h1
          have b2 : (E2 != 0) = true := by simpa using h2
          clear g1 g2 g3 h1 h2
          go_wp2
          refine bodyPost_ret (v := .agg #[.int .i64 0, .int .i64 0, .int .i64 E2]) (by simp [results, Try.results21, go_sem, r0, r1, r2]) rfl ⟨?_, ((HB.out.setCell (by simp) _).setCell (by simp) _).setCell (by simp) _⟩
          rw [G.out.1, G.out.2.1, G.out.2.2]
      · obtain ⟨g1, g2, g3⟩ := J1.out h1
        have G := hid (And.intro g1 (And.intro g2 g3))
        have b1 : (E1 != 0) = true := by simpa using h1
        clear g1 g2 g3 h1
        go_wp2
        refine bodyPost_ret (v := .agg #[.int .i64 0, .int .i64 0, .int .i64 E1]) (by simp [results, Try.results21, go_sem, r0, r1, r2]) rfl ⟨?_, ((HB.out.setCell (by simp) _).setCell (by simp) _).setCell (by simp) _⟩
        rw [G.out.1, G.out.2.1, G.out.2.2]
    · have hkf : inB k 0 (n - 1) = false := by simpa using hk
      have hi : indexN n l k = 1 := by unfold indexN; rw [if_pos h0, if_neg hk]
      have HI := hid hi
      have HK := hid hkf
      clear h0 hk hkf hi
      go_enter Try.func21, Try.ntmps21
      go_wp2_with (first
        | (go_at_call 32; (with_reducible refine (rcheck_any n l a cap _ (HL.out.below HB.out) (by omega)).mono ?_); rw [H0.out]; rintro e w1 ⟨rfl, hb⟩; have HB := hid (HB.out.step hb); have HR := hid (keepBox hb HR.out); clear hb)
        | (go_at_call 64; (with_reducible refine (in_any k 0 (n - 1) _).mono ?_); rw [HK.out]; rintro e w2 ⟨rfl, rfl⟩; obtain ⟨r0, r1, r2, z0, z1, z2⟩ := box3 HR.out))
      refine bodyPost_ret (v := .agg #[.int .i64 0, .int .i64 0, .int .i64 1]) (by simp [results, Try.results21, go_sem, r0, r1, r2]) rfl ⟨?_, ((HB.out.setCell (by simp) _).setCell (by simp) _).setCell (by simp) _⟩
      simp [spanE, spanLo, spanHi, HI.out]
  · have hne : (checkN n l != 0) = true := by simpa using h0
    have hi : indexN n l k = checkN n l := by unfold indexN; rw [if_neg h0]
    have HI := hid hi
    have H0 := hid h0
    clear h0 hi
    go_enter Try.func21, Try.ntmps21
    go_wp2_with (go_at_call 32; (with_reducible refine (rcheck_any n l a cap _ (HL.out.below HB.out) (by omega)).mono ?_); rintro e w1 ⟨rfl, hb⟩; have HB := hid (HB.out.step hb); have HR := hid (keepBox hb HR.out); clear hb; obtain ⟨r0, r1, r2, z0, z1, z2⟩ := box3 HR.out)
    refine bodyPost_ret (v := .agg #[.int .i64 0, .int .i64 0, .int .i64 (checkN n l)]) (by simp [results, Try.results21, go_sem, r0, r1, r2]) rfl ⟨?_, ((HB.out.setCell (by simp) _).setCell (by simp) _).setCell (by simp) _⟩
    simp [spanE, spanLo, spanHi, HI.out, H0.out]
end Go.Proofs.Ytnjbahiaelehkaa
