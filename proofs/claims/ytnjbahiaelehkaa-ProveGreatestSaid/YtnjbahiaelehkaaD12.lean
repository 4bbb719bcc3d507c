/- Opposite of package prove. -/
import Derived.Test.YtnjbahiaelehkaaD6
namespace Go.Proofs.Ytnjbahiaelehkaa
open Go.RowKit

def opp (a : AM) : AM := ⟨a.A, -a.P, a.B, -a.Q, -a.M - 1⟩
def oppE (n : Int) (a : AM) : Int := if inB n 1 12 = true ∧ rightB n a = true ∧ rightB n (opp a) = true then 0 else 1
def oppL (n : Int) (a : AM) : AM := if oppE n a = 0 then opp a else am0

theorem box5 {W : World} {b : Nat} {x y z u v : Value} {T : TypeId} (h : W.heap[b]? = some (.cells #[x, y, z, u, v] T (0, 0))) :
    (W.cell? ⟨b, 0, none⟩ = some x ∧ W.cell? ⟨b, 1, none⟩ = some y ∧ W.cell? ⟨b, 2, none⟩ = some z ∧ W.cell? ⟨b, 3, none⟩ = some u ∧ W.cell? ⟨b, 4, none⟩ = some v) ∧
    W.frozen? ⟨b, 0, none⟩ = false ∧ W.frozen? ⟨b, 1, none⟩ = false ∧ W.frozen? ⟨b, 2, none⟩ = false ∧ W.frozen? ⟨b, 3, none⟩ = false ∧ W.frozen? ⟨b, 4, none⟩ = false := by
  simp [World.cell?, World.frozen?, h]

set_option maxHeartbeats 1000000 in
theorem opp_any (n A P B Q M : Int) (h : rightB n ⟨A, P, B, Q, M⟩ = true) (w : World) :
    Calls Try.prog 83 #[.agg #[.int .i64 A, .int .i64 P, .int .i64 B, .int .i64 Q, .int .i64 M]] w (RetB (.agg #[.int .i64 A, .int .i64 (-P), .int .i64 B, .int .i64 (-Q), .int .i64 (-M - 1)]) w) := by
  have h' := h
  simp only [rightB, decide_eq_true_eq] at h'
  obtain ⟨_, hp, ⟨hq1, hq2⟩, ⟨hm1, hm2⟩, _⟩ := h'
  have hp1 : -1 ≤ P := by omega
  have hp2 : P ≤ 1 := by omega
  clear hp h
  go_enter Try.func83, Try.ntmps83
  go_wp2
  refine bodyPost_ret (v := .agg #[.int .i64 A, .int .i64 (-P), .int .i64 B, .int .i64 (-Q), .int .i64 (-M - 1)]) (by simp [results, Try.results83, go_sem]) rfl ⟨rfl, ?_⟩
  repeat (refine Below.setCell ?_ (by simp) _)
  exact bmore (bnew _ _) _
set_option maxRecDepth 100000 in
set_option maxHeartbeats 4000000 in
/-- What Opposite returns. -/
theorem oppose_any (n A P B Q M : Int) (w : World) :
    Calls Try.prog 41 #[.int .i64 n, .agg #[.int .i64 A, .int .i64 P, .int .i64 B, .int .i64 Q, .int .i64 M]] w (Ret2 (oppL n ⟨A, P, B, Q, M⟩).val (.int .i64 (oppE n ⟨A, P, B, Q, M⟩)) w) := by
  have HB := hid (bmore (bnew w (.cells #[.int .i64 A, .int .i64 P, .int .i64 B, .int .i64 Q, .int .i64 M] 24)) (.cells #[.int .i64 0, .int .i64 0, .int .i64 0, .int .i64 0, .int .i64 0] 24))
  have HX : Hid (((w.alloc (.cells #[.int .i64 A, .int .i64 P, .int .i64 B, .int .i64 Q, .int .i64 M] 24)).alloc (.cells #[.int .i64 0, .int .i64 0, .int .i64 0, .int .i64 0, .int .i64 0] 24)).heap[w.heap.size]? = some (.cells #[.int .i64 A, .int .i64 P, .int .i64 B, .int .i64 Q, .int .i64 M] 24 (0, 0))) := hid (by simp only [heap_alloc_if, World.size_alloc] <;> simp)
  have HR : Hid (((w.alloc (.cells #[.int .i64 A, .int .i64 P, .int .i64 B, .int .i64 Q, .int .i64 M] 24)).alloc (.cells #[.int .i64 0, .int .i64 0, .int .i64 0, .int .i64 0, .int .i64 0] 24)).heap[w.heap.size + 1]? = some (.cells #[.int .i64 0, .int .i64 0, .int .i64 0, .int .i64 0, .int .i64 0] 24 (0, 0))) := hid (by simp only [heap_alloc_if, World.size_alloc] <;> simp)
  obtain ⟨⟨r0, r1, r2, r3, r4⟩, z0, z1, z2, z3, z4⟩ := box5 HR.out
  obtain ⟨⟨k0, k1, k2, k3, k4⟩, _, _, _, _, _⟩ := box5 HX.out
  by_cases h1 : inB n 1 12 = true
  · have hn : 1 ≤ n ∧ n ≤ 12 := by simpa [inB] using h1
    obtain ⟨hn1, hn2⟩ := hn
    have H1 := hid h1
    by_cases h2 : rightB n ⟨A, P, B, Q, M⟩ = true
    · have H2 := hid h2
      have HT := hid h2
      by_cases h3 : rightB n ⟨A, -P, B, -Q, -M - 1⟩ = true
      · have H3 := hid h3
        clear h1 h2 h3
        go_enter Try.func41, Try.ntmps41
        go_wp2_with (first | (go_at_call 71; (with_reducible refine (within_any _ _ _ _).mono ?_); rw [H1.out]; rintro e w1 ⟨rfl, rfl⟩) | (go_at_call 75; (with_reducible refine (right_any n A P B Q M hn1 hn2 _).mono ?_); rw [H2.out]; rintro e w1 ⟨rfl, hb⟩; have HB := hid (HB.out.step hb); have HX := hid (keepBox hb HX.out); have HR := hid (keepBox hb HR.out); clear hb; obtain ⟨⟨r0, r1, r2, r3, r4⟩, z0, z1, z2, z3, z4⟩ := box5 HR.out; obtain ⟨⟨k0, k1, k2, k3, k4⟩, _, _, _, _, _⟩ := box5 HX.out) | (go_at_call 75; (with_reducible refine (right_any n A (-P) B (-Q) (-M - 1) hn1 hn2 _).mono ?_); rw [H3.out]; rintro e w1 ⟨rfl, hb⟩; have HB := hid (HB.out.step hb); have HX := hid (keepBox hb HX.out); have HR := hid (keepBox hb HR.out); clear hb; obtain ⟨⟨r0, r1, r2, r3, r4⟩, z0, z1, z2, z3, z4⟩ := box5 HR.out; obtain ⟨⟨k0, k1, k2, k3, k4⟩, _, _, _, _, _⟩ := box5 HX.out) | (go_at_call 83; (with_reducible refine (opp_any n A P B Q M HT.out _).mono ?_); rintro e w1 ⟨rfl, hb⟩; have HB := hid (HB.out.step hb); have HX := hid (keepBox hb HX.out); have HR := hid (keepBox hb HR.out); clear hb; obtain ⟨⟨r0, r1, r2, r3, r4⟩, z0, z1, z2, z3, z4⟩ := box5 HR.out; obtain ⟨⟨k0, k1, k2, k3, k4⟩, _, _, _, _, _⟩ := box5 HX.out))
        refine bodyPost_ret (v := .tuple #[.agg #[.int .i64 A, .int .i64 (-P), .int .i64 B, .int .i64 (-Q), .int .i64 (-M - 1)], .int .i64 0]) (by simp [results, Try.results41, go_sem, r0, r1, r2, r3, r4]) rfl ⟨?_, ?_⟩
        · have he : oppE n ⟨A, P, B, Q, M⟩ = 0 := if_pos ⟨H1.out, H2.out, H3.out⟩
          unfold oppL
          rw [he]
          rfl
        · repeat (refine Below.setCell ?_ (by simp) _)
          exact HB.out
      · have h3' : rightB n ⟨A, -P, B, -Q, -M - 1⟩ = false := by simpa using h3
        have H3 := hid h3'
        clear h1 h2 h3 h3'
        go_enter Try.func41, Try.ntmps41
        go_wp2_with (first | (go_at_call 71; (with_reducible refine (within_any _ _ _ _).mono ?_); rw [H1.out]; rintro e w1 ⟨rfl, rfl⟩) | (go_at_call 75; (with_reducible refine (right_any n A P B Q M hn1 hn2 _).mono ?_); rw [H2.out]; rintro e w1 ⟨rfl, hb⟩; have HB := hid (HB.out.step hb); have HX := hid (keepBox hb HX.out); have HR := hid (keepBox hb HR.out); clear hb; obtain ⟨⟨r0, r1, r2, r3, r4⟩, z0, z1, z2, z3, z4⟩ := box5 HR.out; obtain ⟨⟨k0, k1, k2, k3, k4⟩, _, _, _, _, _⟩ := box5 HX.out) | (go_at_call 75; (with_reducible refine (right_any n A (-P) B (-Q) (-M - 1) hn1 hn2 _).mono ?_); rw [H3.out]; rintro e w1 ⟨rfl, hb⟩; have HB := hid (HB.out.step hb); have HX := hid (keepBox hb HX.out); have HR := hid (keepBox hb HR.out); clear hb; obtain ⟨⟨r0, r1, r2, r3, r4⟩, z0, z1, z2, z3, z4⟩ := box5 HR.out; obtain ⟨⟨k0, k1, k2, k3, k4⟩, _, _, _, _, _⟩ := box5 HX.out) | (go_at_call 83; (with_reducible refine (opp_any n A P B Q M HT.out _).mono ?_); rintro e w1 ⟨rfl, hb⟩; have HB := hid (HB.out.step hb); have HX := hid (keepBox hb HX.out); have HR := hid (keepBox hb HR.out); clear hb; obtain ⟨⟨r0, r1, r2, r3, r4⟩, z0, z1, z2, z3, z4⟩ := box5 HR.out; obtain ⟨⟨k0, k1, k2, k3, k4⟩, _, _, _, _, _⟩ := box5 HX.out))
        refine bodyPost_ret (v := .tuple #[.agg #[.int .i64 0, .int .i64 0, .int .i64 0, .int .i64 0, .int .i64 0], .int .i64 1]) (by simp [results, Try.results41, go_sem, r0, r1, r2, r3, r4]) rfl ⟨?_, ?_⟩
        · have he : oppE n ⟨A, P, B, Q, M⟩ = 1 := by unfold oppE; rw [if_neg]; rintro ⟨g1, g2, g3⟩; have g4 := H3.out; rw [show rightB n (opp ⟨A, P, B, Q, M⟩) = rightB n ⟨A, -P, B, -Q, -M - 1⟩ from rfl, g4] at g3; cases g3
          unfold oppL
          rw [he]
          rfl
        · repeat (refine Below.setCell ?_ (by simp) _)
          exact HB.out
    · have h2' : rightB n ⟨A, P, B, Q, M⟩ = false := by simpa using h2
      have H2 := hid h2'
      clear h1 h2 h2'
      go_enter Try.func41, Try.ntmps41
      go_wp2_with (first | (go_at_call 71; (with_reducible refine (within_any _ _ _ _).mono ?_); rw [H1.out]; rintro e w1 ⟨rfl, rfl⟩) | (go_at_call 75; (with_reducible refine (right_any n A P B Q M hn1 hn2 _).mono ?_); rw [H2.out]; rintro e w1 ⟨rfl, hb⟩; have HB := hid (HB.out.step hb); have HX := hid (keepBox hb HX.out); have HR := hid (keepBox hb HR.out); clear hb; obtain ⟨⟨r0, r1, r2, r3, r4⟩, z0, z1, z2, z3, z4⟩ := box5 HR.out; obtain ⟨⟨k0, k1, k2, k3, k4⟩, _, _, _, _, _⟩ := box5 HX.out))
      refine bodyPost_ret (v := .tuple #[.agg #[.int .i64 0, .int .i64 0, .int .i64 0, .int .i64 0, .int .i64 0], .int .i64 1]) (by simp [results, Try.results41, go_sem, r0, r1, r2, r3, r4]) rfl ⟨?_, ?_⟩
      · have he : oppE n ⟨A, P, B, Q, M⟩ = 1 := by unfold oppE; rw [if_neg]; rintro ⟨g1, g2, g3⟩; rw [H2.out] at g2; cases g2
        unfold oppL
        rw [he]
        rfl
      · repeat (refine Below.setCell ?_ (by simp) _)
        exact HB.out
  · have h1' : inB n 1 12 = false := by simpa using h1
    have H1 := hid h1'
    clear h1 h1'
    go_enter Try.func41, Try.ntmps41
    go_wp2_with (go_at_call 71; (with_reducible refine (within_any _ _ _ _).mono ?_); rw [H1.out]; rintro e w1 ⟨rfl, rfl⟩)
    refine bodyPost_ret (v := .tuple #[.agg #[.int .i64 0, .int .i64 0, .int .i64 0, .int .i64 0, .int .i64 0], .int .i64 1]) (by simp [results, Try.results41, go_sem, r0, r1, r2, r3, r4]) rfl ⟨?_, ?_⟩
    · have he : oppE n ⟨A, P, B, Q, M⟩ = 1 := by unfold oppE; rw [if_neg]; rintro ⟨g1, g2, g3⟩; rw [H1.out] at g1; cases g1
      unfold oppL
      rw [he]
      rfl
    · repeat (refine Below.setCell ?_ (by simp) _)
      exact HB.out
end Go.Proofs.Ytnjbahiaelehkaa
