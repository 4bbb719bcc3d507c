/- The reference's Opposite. ProveChecks: the walk. For every input the law ProveChecks returns true, and each argument reads afterwards as it read before. No condition. -/
import Derived.Test.YtnjbahiaelehkaaD11
import Derived.Test.YtnjbahiaelehkaaE1
import Derived.Test.YtnjbahiaelehkaaD15
import Derived.Deep.RegionHeld3
import Derived.OpenShut
import Derived.Test.YtnjbahiaelehkaaJ1
namespace Go.Proofs.Ytnjbahiaelehkaa
open Go.RowKit


def oppV (n : Int) (a : AM) : Value := .agg #[.int .i64 (oppL n a).A, .int .i64 (oppL n a).P, .int .i64 (oppL n a).B, .int .i64 (oppL n a).Q, .int .i64 (oppL n a).M, .int .i64 (oppE n a)]
theorem box6 {W : World} {b : Nat} {x y z u v t : Value} {T : TypeId} (h : W.heap[b]? = some (.cells #[x, y, z, u, v, t] T (0, 0))) :
    (W.cell? ⟨b, 0, none⟩ = some x ∧ W.cell? ⟨b, 1, none⟩ = some y ∧ W.cell? ⟨b, 2, none⟩ = some z ∧ W.cell? ⟨b, 3, none⟩ = some u ∧ W.cell? ⟨b, 4, none⟩ = some v ∧ W.cell? ⟨b, 5, none⟩ = some t) ∧
    W.frozen? ⟨b, 0, none⟩ = false ∧ W.frozen? ⟨b, 1, none⟩ = false ∧ W.frozen? ⟨b, 2, none⟩ = false ∧ W.frozen? ⟨b, 3, none⟩ = false ∧ W.frozen? ⟨b, 4, none⟩ = false ∧ W.frozen? ⟨b, 5, none⟩ = false := by
  simp [World.cell?, World.frozen?, h]
theorem right_parts' {n A P B Q M : Int} (h : rightB n ⟨A, P, B, Q, M⟩ = true) : (-1 ≤ P ∧ P ≤ 1) ∧ (-1 ≤ Q ∧ Q ≤ 1) ∧ (-1000000 ≤ M ∧ M ≤ 1000000) := by
  simp only [rightB, decide_eq_true_eq] at h
  omega
set_option maxHeartbeats 2000000 in
theorem rright_some (n A P B Q M : Int) (w : World) :
    Calls Try.prog 76 #[.int .i64 n, .agg #[.int .i64 A, .int .i64 P, .int .i64 B, .int .i64 Q, .int .i64 M]] w (fun e w' => ∃ r, e = .returned (.bool r) ∧ Below w.heap.size w w') := by
  go_enter Try.func76, Try.ntmps76
  go_wp2_with (go_at_call 64; refine (in_any _ _ _ _).mono ?_; rintro e w' ⟨rfl, rfl⟩)
  all_goals go_ret
  all_goals exact ⟨_, rfl, bnew _ _⟩
set_option maxRecDepth 100000 in
set_option maxHeartbeats 4000000 in
theorem rOpp_any (n A P B Q M : Int) (w : World) :
    Calls Try.prog 51 #[.int .i64 n, .agg #[.int .i64 A, .int .i64 P, .int .i64 B, .int .i64 Q, .int .i64 M]] w (RetB (oppV n ⟨A, P, B, Q, M⟩) w) := by
  have HB := hid (bmore (bnew w (.cells #[.int .i64 A, .int .i64 P, .int .i64 B, .int .i64 Q, .int .i64 M] 24)) (.cells #[.int .i64 0, .int .i64 0, .int .i64 0, .int .i64 0, .int .i64 0, .int .i64 0] 91))
  have HX : Hid (((w.alloc (.cells #[.int .i64 A, .int .i64 P, .int .i64 B, .int .i64 Q, .int .i64 M] 24)).alloc (.cells #[.int .i64 0, .int .i64 0, .int .i64 0, .int .i64 0, .int .i64 0, .int .i64 0] 91)).heap[w.heap.size]? = some (.cells #[.int .i64 A, .int .i64 P, .int .i64 B, .int .i64 Q, .int .i64 M] 24 (0, 0))) := hid (by simp only [heap_alloc_if, World.size_alloc] <;> simp)
  have HR : Hid (((w.alloc (.cells #[.int .i64 A, .int .i64 P, .int .i64 B, .int .i64 Q, .int .i64 M] 24)).alloc (.cells #[.int .i64 0, .int .i64 0, .int .i64 0, .int .i64 0, .int .i64 0, .int .i64 0] 91)).heap[w.heap.size + 1]? = some (.cells #[.int .i64 0, .int .i64 0, .int .i64 0, .int .i64 0, .int .i64 0, .int .i64 0] 91 (0, 0))) := hid (by simp only [heap_alloc_if, World.size_alloc] <;> simp)
  obtain ⟨⟨r0, r1, r2, r3, r4, r5⟩, z0, z1, z2, z3, z4, z5⟩ := box6 HR.out
  obtain ⟨⟨k0, k1, k2, k3, k4⟩, _, _, _, _, _⟩ := box5 HX.out
  by_cases h1 : inB n 1 12 = true
  · have hn : 1 ≤ n ∧ n ≤ 12 := by simpa [inB] using h1
    obtain ⟨hn1, hn2⟩ := hn
    have H1 := hid h1
    by_cases h2 : rightB n ⟨A, P, B, Q, M⟩ = true
    · have H2 := hid h2
      obtain ⟨⟨hp1, hp2⟩, ⟨hq1, hq2⟩, ⟨hm1, hm2⟩⟩ := right_parts' h2
      by_cases h3 : rightB n ⟨A, -P, B, -Q, -M - 1⟩ = true
      · have H3 := hid h3
        clear h1 h2 h3
        go_enter Try.func51, Try.ntmps51
        go_wp2_with (first | (go_at_call 64; (with_reducible refine (in_any _ _ _ _).mono ?_); rw [H1.out]; rintro e w1 ⟨rfl, rfl⟩) | (go_at_call 76; (with_reducible refine (rright_any n A P B Q M hn1 hn2 _).mono ?_); rw [H2.out]; rintro e w1 ⟨rfl, hb⟩; have HB := hid (HB.out.step hb); have HX := hid (keepBox hb HX.out); have HR := hid (keepBox hb HR.out); clear hb; obtain ⟨⟨r0, r1, r2, r3, r4, r5⟩, z0, z1, z2, z3, z4, z5⟩ := box6 HR.out; obtain ⟨⟨k0, k1, k2, k3, k4⟩, _, _, _, _, _⟩ := box5 HX.out) | (go_at_call 76; (with_reducible refine (rright_any n A (-P) B (-Q) (-M - 1) hn1 hn2 _).mono ?_); rw [H3.out]; rintro e w2 ⟨rfl, hb⟩; have HT := hid (keepBox hb (heapn _ (.cells #[.int .i64 A, .int .i64 (-P), .int .i64 B, .int .i64 (-Q), .int .i64 (-M - 1)] 24) _ rfl)); obtain ⟨⟨t0, t1, t2, t3, t4⟩, _, _, _, _, _⟩ := box5 HT.out; have hb := (bnew _ _).step hb; have HB := hid (HB.out.step hb); have HX := hid (keepBox hb HX.out); have HR := hid (keepBox hb HR.out); clear hb; obtain ⟨⟨r0, r1, r2, r3, r4, r5⟩, z0, z1, z2, z3, z4, z5⟩ := box6 HR.out; obtain ⟨⟨k0, k1, k2, k3, k4⟩, _, _, _, _, _⟩ := box5 HX.out))
        refine bodyPost_ret (v := .agg #[.int .i64 A, .int .i64 (-P), .int .i64 B, .int .i64 (-Q), .int .i64 (-M - 1), .int .i64 0]) (by simp [results, Try.results51, go_sem, r0, r1, r2, r3, r4, r5]) rfl ⟨?_, ?_⟩
        · have he : oppE n ⟨A, P, B, Q, M⟩ = 0 := if_pos ⟨H1.out, H2.out, H3.out⟩
          unfold oppV oppL
          rw [he]
          rfl
        · repeat (refine Below.setCell ?_ (by simp) _)
          first | exact HB.out | exact bmore HB.out _
      · have h3' : rightB n ⟨A, -P, B, -Q, -M - 1⟩ = false := by simpa using h3
        have H3 := hid h3'
        clear h1 h2 h3 h3'
        go_enter Try.func51, Try.ntmps51
        go_wp2_with (first | (go_at_call 64; (with_reducible refine (in_any _ _ _ _).mono ?_); rw [H1.out]; rintro e w1 ⟨rfl, rfl⟩) | (go_at_call 76; (with_reducible refine (rright_any n A P B Q M hn1 hn2 _).mono ?_); rw [H2.out]; rintro e w1 ⟨rfl, hb⟩; have HB := hid (HB.out.step hb); have HX := hid (keepBox hb HX.out); have HR := hid (keepBox hb HR.out); clear hb; obtain ⟨⟨r0, r1, r2, r3, r4, r5⟩, z0, z1, z2, z3, z4, z5⟩ := box6 HR.out; obtain ⟨⟨k0, k1, k2, k3, k4⟩, _, _, _, _, _⟩ := box5 HX.out) | (go_at_call 76; (with_reducible refine (rright_any n A (-P) B (-Q) (-M - 1) hn1 hn2 _).mono ?_); rw [H3.out]; rintro e w2 ⟨rfl, hb⟩; have HT := hid (keepBox hb (heapn _ (.cells #[.int .i64 A, .int .i64 (-P), .int .i64 B, .int .i64 (-Q), .int .i64 (-M - 1)] 24) _ rfl)); obtain ⟨⟨t0, t1, t2, t3, t4⟩, _, _, _, _, _⟩ := box5 HT.out; have hb := (bnew _ _).step hb; have HB := hid (HB.out.step hb); have HX := hid (keepBox hb HX.out); have HR := hid (keepBox hb HR.out); clear hb; obtain ⟨⟨r0, r1, r2, r3, r4, r5⟩, z0, z1, z2, z3, z4, z5⟩ := box6 HR.out; obtain ⟨⟨k0, k1, k2, k3, k4⟩, _, _, _, _, _⟩ := box5 HX.out))
        refine bodyPost_ret (v := .agg #[.int .i64 0, .int .i64 0, .int .i64 0, .int .i64 0, .int .i64 0, .int .i64 1]) (by simp [results, Try.results51, go_sem, r0, r1, r2, r3, r4, r5]) rfl ⟨?_, ?_⟩
        · have he : oppE n ⟨A, P, B, Q, M⟩ = 1 := by unfold oppE; rw [if_neg]; rintro ⟨g1, g2, g3⟩; have g4 := H3.out; rw [show rightB n (opp ⟨A, P, B, Q, M⟩) = rightB n ⟨A, -P, B, -Q, -M - 1⟩ from rfl, g4] at g3; cases g3
          unfold oppV oppL
          rw [he]
          rfl
        · repeat (refine Below.setCell ?_ (by simp) _)
          first | exact HB.out | exact bmore HB.out _
    · have h2' : rightB n ⟨A, P, B, Q, M⟩ = false := by simpa using h2
      have H2 := hid h2'
      clear h1 h2 h2'
      go_enter Try.func51, Try.ntmps51
      go_wp2_with (first | (go_at_call 64; (with_reducible refine (in_any _ _ _ _).mono ?_); rw [H1.out]; rintro e w1 ⟨rfl, rfl⟩) | (go_at_call 76; (with_reducible refine (rright_any n A P B Q M hn1 hn2 _).mono ?_); rw [H2.out]; rintro e w1 ⟨rfl, hb⟩; have HB := hid (HB.out.step hb); have HX := hid (keepBox hb HX.out); have HR := hid (keepBox hb HR.out); clear hb; obtain ⟨⟨r0, r1, r2, r3, r4, r5⟩, z0, z1, z2, z3, z4, z5⟩ := box6 HR.out; obtain ⟨⟨k0, k1, k2, k3, k4⟩, _, _, _, _, _⟩ := box5 HX.out))
      refine bodyPost_ret (v := .agg #[.int .i64 0, .int .i64 0, .int .i64 0, .int .i64 0, .int .i64 0, .int .i64 1]) (by simp [results, Try.results51, go_sem, r0, r1, r2, r3, r4, r5]) rfl ⟨?_, ?_⟩
      · have he : oppE n ⟨A, P, B, Q, M⟩ = 1 := by unfold oppE; rw [if_neg]; rintro ⟨g1, g2, g3⟩; rw [H2.out] at g2; cases g2
        unfold oppV oppL
        rw [he]
        rfl
      · repeat (refine Below.setCell ?_ (by simp) _)
        first | exact HB.out | exact bmore HB.out _
  · have h1' : inB n 1 12 = false := by simpa using h1
    have H1 := hid h1'
    clear h1 h1'
    go_enter Try.func51, Try.ntmps51
    go_wp2_with (first | (go_at_call 64; (with_reducible refine (in_any _ _ _ _).mono ?_); rw [H1.out]; rintro e w1 ⟨rfl, rfl⟩) | (go_at_call 76; (with_reducible refine (rright_some n A P B Q M _).mono ?_); rintro e w1 ⟨r, rfl, hb⟩; have HB := hid (HB.out.step hb); have HX := hid (keepBox hb HX.out); have HR := hid (keepBox hb HR.out); clear hb; obtain ⟨⟨r0, r1, r2, r3, r4, r5⟩, z0, z1, z2, z3, z4, z5⟩ := box6 HR.out; obtain ⟨⟨k0, k1, k2, k3, k4⟩, _, _, _, _, _⟩ := box5 HX.out))
    refine bodyPost_ret (v := .agg #[.int .i64 0, .int .i64 0, .int .i64 0, .int .i64 0, .int .i64 0, .int .i64 1]) (by simp [results, Try.results51, go_sem, r0, r1, r2, r3, r4, r5]) rfl ⟨?_, ?_⟩
    · have he : oppE n ⟨A, P, B, Q, M⟩ = 1 := by unfold oppE; rw [if_neg]; rintro ⟨g1, g2, g3⟩; rw [H1.out] at g1; cases g1
      unfold oppV oppL
      rw [he]
      rfl
    · repeat (refine Below.setCell ?_ (by simp) _)
      first | exact HB.out | exact bmore HB.out _


theorem eql24 (x : AM) (w : World) : (binOp .eql 24 (.agg #[.int .i64 x.A, .int .i64 x.P, .int .i64 x.B, .int .i64 x.Q, .int .i64 x.M]) (.agg #[.int .i64 x.A, .int .i64 x.P, .int .i64 x.B, .int .i64 x.Q, .int .i64 x.M])).run Try.prog w = .ok (.bool true) w := by
  rw [run_eql_struct, eq24 x x]
  simp
set_option maxRecDepth 100000 in
set_option maxHeartbeats 16000000 in
theorem checks_any (n : Int) (l : List AM) (A P B Q M : Int) (p : List Stp) (a : Option Addr) (cap : Nat) (b : Option Addr) (cb : Nat) (w : World) (hl : Rd w a l) (hlen : l.length ≤ 9223372036854775807) (hp : RdS w b p) (hpl : p.length ≤ 9223372036854775807) :
    Calls Try.prog 13 #[.int .i64 n, .slice a l.length cap, .agg #[.int .i64 A, .int .i64 P, .int .i64 B, .int .i64 Q, .int .i64 M], .slice b p.length cb] w (RetB (.bool true) w) := by
  have HL := hid hl; clear hl
  have HS := hid hp; clear hp
  have HB := hid (bnew w (.cells #[.int .i64 A, .int .i64 P, .int .i64 B, .int .i64 Q, .int .i64 M] 24))
  have HX : Hid ((w.alloc (.cells #[.int .i64 A, .int .i64 P, .int .i64 B, .int .i64 Q, .int .i64 M] 24)).heap[w.heap.size]? = some (.cells #[.int .i64 A, .int .i64 P, .int .i64 B, .int .i64 Q, .int .i64 M] 24 (0, 0))) := hid (by simp only [heap_alloc_if] <;> simp)
  obtain ⟨⟨k0, k1, k2, k3, k4⟩, _, _, _, _, _⟩ := box5 HX.out
  by_cases hs : l.length ≤ 60
  · have ds : decide (l.length ≤ 60) = true := by simpa using hs
    by_cases h5 : 500 < p.length
    · have dp : decide (500 < (p.length : Int)) = true := by simp; omega
      go_enter Try.func13, Try.ntmps13
      go_wp2_with (first
        | (go_at_call 16; (with_reducible refine (short_any l a cap _ hlen).mono ?_); rintro e w1 ⟨rfl, rfl⟩)
        | (go_at_call 17; refine (sanity_any _).mono ?_; rintro e w1 ⟨rfl, hb⟩; have HB := hid (HB.out.step hb); clear hb))
      go_ret
      exact ⟨rfl, HB.out⟩
    · have dp : decide (500 < (p.length : Int)) = false := by simp; omega
      obtain ⟨ol, hol⟩ : ∃ q, q = oppL n ⟨A, P, B, Q, M⟩ := ⟨_, rfl⟩
      obtain ⟨oE, hoe⟩ : ∃ q, q = oppE n ⟨A, P, B, Q, M⟩ := ⟨_, rfl⟩
      obtain ⟨oA, oP, oB, oQ, oM⟩ := ol
      have hov : oppV n ⟨A, P, B, Q, M⟩ = .agg #[.int .i64 oA, .int .i64 oP, .int .i64 oB, .int .i64 oQ, .int .i64 oM, .int .i64 oE] := by unfold oppV; rw [← hol, ← hoe]
      have how : (oppL n ⟨A, P, B, Q, M⟩).val = .agg #[.int .i64 oA, .int .i64 oP, .int .i64 oB, .int .i64 oQ, .int .i64 oM] := by rw [← hol]; rfl
      have HOV := hid (And.intro hov (And.intro how hoe))
      obtain ⟨r1, hr1⟩ : ∃ q, q = refN n l p := ⟨_, rfl⟩
      obtain ⟨r2, hr2⟩ : ∃ q, q = prfN n l ⟨A, P, B, Q, M⟩ p := ⟨_, rfl⟩
      have hcp := fun (w : World) hl hp => checkprf_any n l A P B Q M p a b cap cb w hl hp (by omega) (by omega)
      simp only [show (if lineN n l ⟨A, P, B, Q, M⟩ = 0 then (if prfB n.toNat l ⟨A, P, B, Q, M⟩ p = true then 0 else 11) else lineN n l ⟨A, P, B, Q, M⟩) = prfN n l ⟨A, P, B, Q, M⟩ p from rfl, ← hr2] at hcp
      have HCP := hid hcp
      have HR := hid (And.intro hr1 hr2)
      clear hol hoe hov how hr1 hr2 hcp
      go_enter Try.func13, Try.ntmps13
      go_upto_region 4 with (first
        | (go_at_call 16; (with_reducible refine (short_any l a cap _ hlen).mono ?_); rintro e w1 ⟨rfl, rfl⟩)
        | (go_at_call 41; (with_reducible refine (oppose_any n A P B Q M _).mono ?_); rw [HOV.out.2.1, ← HOV.out.2.2]; rintro e w1 ⟨rfl, hb⟩; have HB := hid (HB.out.step hb); have HX := hid (keepBox hb HX.out); clear hb))
      have HO : Hid ((w1.alloc (.cells #[.int .i64 oA, .int .i64 oP, .int .i64 oB, .int .i64 oQ, .int .i64 oM] 24)).heap[w1.heap.size]? = some (.cells #[.int .i64 oA, .int .i64 oP, .int .i64 oB, .int .i64 oQ, .int .i64 oM] 24 (0, 0))) := hid (by simp only [heap_alloc_if] <;> simp)
      have HX := hid (keepBox (bnew w1 (.cells #[.int .i64 oA, .int .i64 oP, .int .i64 oB, .int .i64 oQ, .int .i64 oM] 24)) HX.out)
      have HB := hid (bmore HB.out (.cells #[.int .i64 oA, .int .i64 oP, .int .i64 oB, .int .i64 oQ, .int .i64 oM] 24))
      generalize w1.alloc (.cells #[.int .i64 oA, .int .i64 oP, .int .i64 oB, .int .i64 oQ, .int .i64 oM] 24) = W3 at *
      generalize w1.heap.size = j1 at *
      clear k0 k1 k2 k3 k4
      obtain ⟨⟨k0, k1, k2, k3, k4⟩, _, _, _, _, _⟩ := box5 HX.out
      go_upto_region 5 with (go_at_call 51; (with_reducible refine (rOpp_any n A P B Q M _).mono ?_); rw [HOV.out.1]; rintro e w8 ⟨rfl, hb⟩; have HB := hid (HB.out.step hb); have HX := hid (keepBox hb HX.out); have HO := hid (keepBox hb HO.out); clear hb)
      have HE : Hid ((w8.alloc (.cells #[.int .i64 oA, .int .i64 oP, .int .i64 oB, .int .i64 oQ, .int .i64 oM, .int .i64 oE] 91)).heap[w8.heap.size]? = some (.cells #[.int .i64 oA, .int .i64 oP, .int .i64 oB, .int .i64 oQ, .int .i64 oM, .int .i64 oE] 91 (0, 0))) := hid (by simp only [heap_alloc_if] <;> simp)
      have HX := hid (keepBox (bnew w8 (.cells #[.int .i64 oA, .int .i64 oP, .int .i64 oB, .int .i64 oQ, .int .i64 oM, .int .i64 oE] 91)) HX.out)
      have HO := hid (keepBox (bnew w8 (.cells #[.int .i64 oA, .int .i64 oP, .int .i64 oB, .int .i64 oQ, .int .i64 oM, .int .i64 oE] 91)) HO.out)
      have HB := hid (bmore HB.out (.cells #[.int .i64 oA, .int .i64 oP, .int .i64 oB, .int .i64 oQ, .int .i64 oM, .int .i64 oE] 91))
      generalize w8.alloc (.cells #[.int .i64 oA, .int .i64 oP, .int .i64 oB, .int .i64 oQ, .int .i64 oM, .int .i64 oE] 91) = W5 at *
      generalize w8.heap.size = j2 at *
      clear k0 k1 k2 k3 k4
      obtain ⟨⟨k0, k1, k2, k3, k4⟩, _, _, _, _, _⟩ := box5 HX.out
      obtain ⟨⟨i0, i1, i2, i3, i4⟩, _, _, _, _, _⟩ := box5 HO.out
      obtain ⟨⟨u0, u1, u2, u3, u4, u5⟩, _, _, _, _, _, _⟩ := box6 HE.out
      have q24 := fun w => eql24 ⟨oA, oP, oB, oQ, oM⟩ w
      simp only at q24
      have g24 : Try.prog.eqGuardType Try.prog.depth 24 = false := by kernel_rfl
      have e1 : (r1 == r1) = true := by simp
      have e2 : (r2 == r2) = true := by simp
      have e3 : (oE == oE) = true := by simp
      have hb := bdrew W5
      go_region_held3 (fun w' => w'.cell? ⟨w.heap.size, 0, none⟩ = some (.int .i64 A) ∧ w'.cell? ⟨w.heap.size, 1, none⟩ = some (.int .i64 P) ∧ w'.cell? ⟨w.heap.size, 2, none⟩ = some (.int .i64 B) ∧ w'.cell? ⟨w.heap.size, 3, none⟩ = some (.int .i64 Q) ∧ w'.cell? ⟨w.heap.size, 4, none⟩ = some (.int .i64 M) ∧ w'.cell? ⟨j1, 0, none⟩ = some (.int .i64 oA) ∧ w'.cell? ⟨j1, 1, none⟩ = some (.int .i64 oP) ∧ w'.cell? ⟨j1, 2, none⟩ = some (.int .i64 oB) ∧ w'.cell? ⟨j1, 3, none⟩ = some (.int .i64 oQ) ∧ w'.cell? ⟨j1, 4, none⟩ = some (.int .i64 oM) ∧ w'.cell? ⟨j2, 0, none⟩ = some (.int .i64 oA) ∧ w'.cell? ⟨j2, 1, none⟩ = some (.int .i64 oP) ∧ w'.cell? ⟨j2, 2, none⟩ = some (.int .i64 oB) ∧ w'.cell? ⟨j2, 3, none⟩ = some (.int .i64 oQ) ∧ w'.cell? ⟨j2, 4, none⟩ = some (.int .i64 oM) ∧ w'.cell? ⟨j2, 5, none⟩ = some (.int .i64 oE)) (first | exact ⟨k0, k1, k2, k3, k4, i0, i1, i2, i3, i4, u0, u1, u2, u3, u4, u5⟩ | exact ⟨cell_later hb k0, cell_later hb k1, cell_later hb k2, cell_later hb k3, cell_later hb k4, cell_later hb i0, cell_later hb i1, cell_later hb i2, cell_later hb i3, cell_later hb i4, cell_later hb u0, cell_later hb u1, cell_later hb u2, cell_later hb u3, cell_later hb u4, cell_later hb u5⟩)
        ((first
          | (go_at_call 17; (refine (sanity_any _).mono ?_); rintro e w9 ⟨rfl, hbb⟩; have hb := hb.step hbb; clear hbb)
          | (go_at_call 52; (with_reducible refine (checkref_any n l p a b cap cb _ (HL.out.below (HB.out.step hb)) (HS.out.below (HB.out.step hb)) (by omega) (by omega)).mono ?_); rw [← HR.out.1]; rintro e w9 ⟨rfl, hbb⟩; have hb := hb.step hbb; clear hbb)
          | (go_at_call 39; (with_reducible refine (rcheckref_any n l p a b cap cb _ (HL.out.below (HB.out.step hb)) (HS.out.below (HB.out.step hb)) (by omega) (by omega)).mono ?_); rw [← HR.out.1]; rintro e w9 ⟨rfl, hbb⟩; have hb := hb.step hbb; clear hbb)
          | (go_at_call 53; (with_reducible refine (HCP.out _ (HL.out.below (HB.out.step hb)) (HS.out.below (HB.out.step hb))).mono ?_); rintro e w9 ⟨rfl, hbb⟩; have hb := hb.step hbb; clear hbb)
          | (go_at_call 35; (with_reducible refine (rcheckprf_any n l A P B Q M p a b cap cb _ (HL.out.below (HB.out.step hb)) (HS.out.below (HB.out.step hb)) (by omega) (by omega)).mono ?_); rw [← HR.out.2]; rintro e w9 ⟨rfl, hbb⟩; have hb := hb.step hbb; clear hbb)))
      all_goals go_wp2
      all_goals go_ret
      all_goals exact ⟨rfl, HB.out.step hb⟩
  · have ds : decide (l.length ≤ 60) = false := by simpa using hs
    go_enter Try.func13, Try.ntmps13
    go_wp2_with (first
      | (go_at_call 16; (with_reducible refine (short_any l a cap _ hlen).mono ?_); rintro e w1 ⟨rfl, rfl⟩)
      | (go_at_call 17; refine (sanity_any _).mono ?_; rintro e w1 ⟨rfl, hb⟩; have HB := hid (HB.out.step hb); clear hb))
    go_ret
    exact ⟨rfl, HB.out⟩

open Go.ChangeShapes Go.WideShapes Go.ChangeAt Go.RowKit

set_option maxRecDepth 100000 in
set_option maxHeartbeats 1000000 in
theorem checks_lifted (os : Os) (started : os.Started) (H : Type) (enc : TypeId × Value → H) :
    ReturnsInHanded {} Try.checked os 13 .any (Rows.proveChecksSpec.pre6 enc Try.prog Try.f13 Rows.proveChecksRow.domain false) (Rows.proveChecksSpec.post enc Try.prog Try.f13 false true false false) := by
  refine returnsInHanded_of_change (C := Try.checked) Try.own started (by kernel_rfl) Try.func13
    (ChangeSpec.witness6 (enc := enc) (C := Try.checked) false ⟨#[], #[.int .i64 0, .slice none 0 0, .agg #[.int .i64 0, .int .i64 0, .int .i64 0, .int .i64 0, .int .i64 0], .slice none 0 0], []⟩ 8 (by kernel_rfl) (by kernel_rfl) (by kernel_rfl) (by kernel_rfl)) ?_
  intro W base args ds gs before hval0 hW hcnd _
  have hval : ∀ (j : Nat) t v, Try.f13.params[j]? = some t → args[j]? = some v → Value.okWide Try.prog W .any base t v := hval0
  have hW' := hW
  obtain ⟨p, q, hA0, hV, rfl, _, _⟩ := hW
  have hA : DataW.TrodAll enc Try.prog W 0 (fun _ => true) true Try.f13.params.toList args.toList ds p := hA0
  rw [Try.params13] at hA hval
  obtain ⟨args⟩ := args
  obtain ⟨v0, vs0, d0, ds0, p0, q0, rfl, rfl, rfl, h0, r0⟩ := trodAll_cons hA
  obtain ⟨v1, vs1, d1, ds1, p1, q1, rfl, rfl, rfl, h1, r1⟩ := trodAll_cons r0
  obtain ⟨v2, vs2, d2, ds2, p2, q2, rfl, rfl, rfl, h2, r2⟩ := trodAll_cons r1
  obtain ⟨v3, vs3, d3, ds3, p3, q3, rfl, rfl, rfl, h3, r3⟩ := trodAll_cons r2
  obtain ⟨rfl, rfl, rfl⟩ := trodAll_nil r3
  obtain ⟨rfl, rfl⟩ := trodVars_none hV
  obtain ⟨n, rfl, rfl, rfl, w0⟩ := open_int Try.underlying3 (hval 0 3 v0 rfl rfl) h0
  obtain ⟨l, sl1, c1, rfl, hr1, hl1⟩ := open_lines (hval 1 22 v1 rfl rfl) h1
  obtain ⟨b0, b1, b2, b3, b4, rfl⟩ := open_line (hval 2 24 v2 rfl rfl) h2
  obtain ⟨p, sl3, c3, rfl, hr3, hl3⟩ := open_steps (hval 3 63 v3 rfl rfl) h3
  have hlt : ∀ x ∈ [] ++ (p1 ++ (p2 ++ (p3 ++ []))), x.block < W.heap.size := fun x hx => hW'.lt x (by simpa using hx)
  refine (checks_any n l b0 b1 b2 b3 b4 p sl1 c1 sl3 c3 W hr1 hl1 hr3 hl3).mono fun e W' ⟨he, hb⟩ => ?_
  subst he
  refine ⟨_, rfl, _, _, _, [], [] ++ (p1 ++ (p2 ++ (p3 ++ []))), [], hW', trodAll_mk1 (shut_bool Try.underlying4 true), ?_, rfl, hb.frame _, fun h => by cases h⟩
  exact (trodAll_cons_mk (stays read3 row3 h0 hb (fun x hx => by cases hx)) (trodAll_cons_mk (stays read22 row22 h1 hb (fun x hx => hlt x (by simp [hx]))) (trodAll_cons_mk (stays read24 row24 h2 hb (fun x hx => hlt x (by simp [hx]))) (trodAll_cons_mk (stays read63 row63 h3 hb (fun x hx => hlt x (by simp [hx]))) trodAll_mk0))))

theorem checks_holds : Rows.ProveChecksSaid :=
  OpenClaim.holds_of_wide 13 Try.f13 rfl rfl rfl rfl rfl rfl rfl ⟨rfl, rfl, rfl, rfl, rfl⟩ rfl rfl rfl rfl rfl (by kernel_rfl) Try.func13 (by kernel_rfl)
    (of_decide_eq_true (by kernel_rfl)) (by unfold Func.isWrapper; first | (rw [if_pos (by decide +kernel)]; kernel_rfl) | (rw [if_neg (by decide +kernel)]; exact ⟨rfl, rfl⟩))
    (fun os started H enc _ => checks_lifted os started H enc)
#print axioms checks_holds
end Go.Proofs.Ytnjbahiaelehkaa
