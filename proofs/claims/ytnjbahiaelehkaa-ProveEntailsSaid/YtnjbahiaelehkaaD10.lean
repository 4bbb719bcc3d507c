/- The reference's entails, Entails, possible, Possible. -/
import Derived.Test.YtnjbahiaelehkaaD7
import Derived.Test.YtnjbahiaelehkaaL1
import Derived.Deep.RegionHeld3
namespace Go.Proofs.Ytnjbahiaelehkaa
open Go.RowKit

theorem ent_most {l : List AM} {a : AM} (hp : possB l = true) : entB l a = match maxO l a with | some k => decide (k ≤ a.M) | none => false := by
  cases h : maxO l a with
  | some k =>
    obtain ⟨⟨x, hx, e⟩, hm⟩ := maxO_some.1 h
    simp only
    rw [Bool.eq_iff_iff, entB_iff, decide_eq_true_eq]
    exact ⟨fun hh => by have := hh x hx; omega, fun hh y hy => by have := hm y hy; omega⟩
  | none =>
    simp only
    rw [Bool.eq_iff_iff, entB_iff]
    refine ⟨fun hh => ?_, fun hh => by cases hh⟩
    obtain ⟨x, hx⟩ := possB_iff.1 hp
    obtain ⟨m, hm⟩ := max_of_bound hh _ x hx rfl
    rw [maxO_some.2 hm] at h
    cases h
theorem ent_ref {n : Nat} {l : List AM} {m : Nat → Nat → Int} {a : AM} (ht : RefT l n m) (o : Ok n 1000000 a) : entB l a = decide (mostR m a ≤ a.M) := by
  rw [ent_most ht.poss]
  obtain ⟨q1, q2⟩ := ht.most a o
  have hR := rfv
  have := o.hi
  cases h : maxO l a with
  | some k => rw [(q1 k h).1]
  | none =>
    rw [q2 h]
    simp only
    rw [Bool.eq_iff_iff, decide_eq_true_eq]
    exact ⟨(fun h => by cases h), fun h => by omega⟩
theorem ent_no {l : List AM} {a : AM} (hp : possB l = false) : entB l a = true := entB_iff.2 fun x hx => absurd (possB_iff.2 ⟨x, hx⟩) (by rw [hp]; decide)

set_option maxRecDepth 100000 in
set_option maxHeartbeats 4000000 in
theorem rent_any (N : Nat) (hN1 : 1 ≤ N) (hN : N ≤ 12) (l : List AM) (A P B Q M : Int) (a : Option Addr) (cap : Nat) (w : World) (ok : ∀ a, a ∈ l → Ok N 1000000 a) (o : Ok N 1000000 ⟨A, P, B, Q, M⟩) (hl : Rd w a l) (hlen : l.length ≤ 1000000) :
    Calls Try.prog 77 #[.int .i64 N, .slice a l.length cap, .agg #[.int .i64 A, .int .i64 P, .int .i64 B, .int .i64 Q, .int .i64 M]] w (RetB (.bool (entB l ⟨A, P, B, Q, M⟩)) w) := by
  have HL := hid hl; clear hl
  have HB := hid (bnew w (.cells #[.int .i64 A, .int .i64 P, .int .i64 B, .int .i64 Q, .int .i64 M] 24))
  have HX : Hid ((w.alloc (.cells #[.int .i64 A, .int .i64 P, .int .i64 B, .int .i64 Q, .int .i64 M] 24)).heap[w.heap.size]? = some (.cells #[.int .i64 A, .int .i64 P, .int .i64 B, .int .i64 Q, .int .i64 M] 24 (0, 0))) := hid (by simp only [heap_alloc_if] <;> simp)
  have HOK := hid ok
  have HO := hid o
  clear ok o
  go_enter Try.func77, Try.ntmps77
  go_wp2_with (go_at_call 60; fail)
  refine (tight_any N hN1 hN l HOK.out a cap _ (HL.out.below HB.out) hlen).mono ?_
  rintro e w1 ⟨hb, hor⟩
  have HB := hid (HB.out.step hb)
  have HX := hid (keepBox hb HX.out)
  clear hb
  rcases hor with ⟨hp, rfl⟩ | ⟨g, cg, R, m, rfl, hmx, ht⟩
  · have HE := hid (ent_no (a := ⟨A, P, B, Q, M⟩) hp)
    clear hp
    go_wp2
    go_quiet (fail)
    go_wp2
    go_ret
    exact ⟨ret_bool HE.out.symm, below_drewN HB.out _⟩
  · have HE := hid (ent_ref ht HO.out)
    have HM := hid hmx
    have HSM : Hid (SmallM (2 * N) m) := hid ht.small
    obtain ⟨v, hv⟩ : ∃ v, v = mostR m ⟨A, P, B, Q, M⟩ := ⟨_, rfl⟩
    have HV := hid hv
    clear hmx ht hv
    obtain ⟨k0, k1, k2, k3, k4⟩ := AMat.of (x := ⟨A, P, B, Q, M⟩) HX.out
    simp only [Nat.zero_add] at k0 k1 k2 k3 k4
    have hlw := lt_of_heap HX.out
    go_wp2
    go_region_held3 (fun w' => w'.cell? ⟨w.heap.size, 0, none⟩ = some (.int .i64 A) ∧ w'.cell? ⟨w.heap.size, 1, none⟩ = some (.int .i64 P) ∧ w'.cell? ⟨w.heap.size, 2, none⟩ = some (.int .i64 B) ∧ w'.cell? ⟨w.heap.size, 3, none⟩ = some (.int .i64 Q) ∧ w'.cell? ⟨w.heap.size, 4, none⟩ = some (.int .i64 M)) (first | exact ⟨k0, k1, k2, k3, k4⟩ | exact ⟨cell_later hb k0, cell_later hb k1, cell_later hb k2, cell_later hb k3, cell_later hb k4⟩)
      ((go_at_call 61; (with_reducible refine (rmost_any N hN A P B Q M HO.out _ g cg R m _ (HM.out.below (bdrew _)) HSM.out).mono ?_); rw [← HV.out]; rintro e w2 ⟨rfl, hb⟩))
    have HB := hid (HB.out.drew.step hb)
    clear hb k0 k1 k2 k3 k4
    go_wp2
    go_ret
    exact ⟨ret_bool (by rw [HE.out, ← HV.out]), HB.out⟩

set_option maxRecDepth 100000 in
set_option maxHeartbeats 4000000 in
theorem rEnt_any (n : Int) (l : List AM) (A P B Q M : Int) (a : Option Addr) (cap : Nat) (w : World) (hl : Rd w a l) (hlen : l.length ≤ 1000000) :
    Calls Try.prog 33 #[.int .i64 n, .slice a l.length cap, .agg #[.int .i64 A, .int .i64 P, .int .i64 B, .int .i64 Q, .int .i64 M]] w (RetB (.agg #[.bool (entV n l ⟨A, P, B, Q, M⟩), .int .i64 (lineN n l ⟨A, P, B, Q, M⟩)]) w) := by
  have HL := hid hl; clear hl
  have HB := hid (bmore (bnew w (.cells #[.int .i64 A, .int .i64 P, .int .i64 B, .int .i64 Q, .int .i64 M] 24)) (.cells #[.bool false, .int .i64 0] 61))
  have HX : Hid (((w.alloc (.cells #[.int .i64 A, .int .i64 P, .int .i64 B, .int .i64 Q, .int .i64 M] 24)).alloc (.cells #[.bool false, .int .i64 0] 61)).heap[w.heap.size]? = some (.cells #[.int .i64 A, .int .i64 P, .int .i64 B, .int .i64 Q, .int .i64 M] 24 (0, 0))) := hid (by simp only [heap_alloc_if, World.size_alloc] <;> simp)
  have HR : Hid (((w.alloc (.cells #[.int .i64 A, .int .i64 P, .int .i64 B, .int .i64 Q, .int .i64 M] 24)).alloc (.cells #[.bool false, .int .i64 0] 61)).heap[w.heap.size + 1]? = some (.cells #[.bool false, .int .i64 0] 61 (0, 0))) := hid (by simp only [heap_alloc_if, World.size_alloc] <;> simp)
  by_cases h0 : lineN n l ⟨A, P, B, Q, M⟩ = 0
  · obtain ⟨hc0, hr0⟩ := lineN_zero h0
    obtain ⟨⟨hn1, hn2⟩, _, hrs⟩ := checkN_in hc0
    obtain ⟨N, rfl⟩ : ∃ N : Nat, n = (N : Int) := ⟨n.toNat, by omega⟩
    have hN : N ≤ 12 := by omega
    have hN1 : 1 ≤ N := by omega
    have HOK := hid (rights_ok hrs)
    have HO := hid (right_ok hr0)
    have H0 := hid h0
    clear h0 hc0 hr0 hrs
    go_enter Try.func33, Try.ntmps33
    go_wp2_with (first
      | (go_at_call 59; (with_reducible refine (asked_any _ l A P B Q M a cap _ (HL.out.below HB.out) (by omega)).mono ?_); rw [H0.out]; rintro e w1 ⟨rfl, hb⟩; have HB := hid (HB.out.step hb); have HX := hid (keepBox hb HX.out); have HR := hid (keepBox hb HR.out); clear hb; obtain ⟨k0, k1, k2, k3, k4⟩ := AMat.of (x := ⟨A, P, B, Q, M⟩) HX.out; simp only [Nat.zero_add] at k0 k1 k2 k3 k4)
      | (go_at_call 77; (with_reducible refine (rent_any N hN1 hN l A P B Q M a cap _ HOK.out HO.out (HL.out.below HB.out) hlen).mono ?_); rintro e w1 ⟨rfl, hb⟩; have HB := hid (HB.out.step hb); have HR := hid (keepBox hb HR.out); clear hb; obtain ⟨r0, r1, _, _⟩ := box2 HR.out))
    refine bodyPost_ret (v := .agg #[.bool (entB l ⟨A, P, B, Q, M⟩), .int .i64 0]) (by simp [results, Try.results33, go_sem, r0, r1]) rfl ⟨?_, (HB.out.setCell (by simp) _).setCell (by simp) _⟩
    simp [entV, H0.out]
  · have hne : (lineN n l ⟨A, P, B, Q, M⟩ != 0) = true := by simpa using h0
    have H0 := hid h0
    clear h0
    go_enter Try.func33, Try.ntmps33
    go_wp2_with (go_at_call 59; (with_reducible refine (asked_any n l A P B Q M a cap _ (HL.out.below HB.out) (by omega)).mono ?_); rintro e w1 ⟨rfl, hb⟩; have HB := hid (HB.out.step hb); have HX := hid (keepBox hb HX.out); have HR := hid (keepBox hb HR.out); clear hb; obtain ⟨r0, r1, _, _⟩ := box2 HR.out)
    refine bodyPost_ret (v := .agg #[.bool false, .int .i64 (lineN n l ⟨A, P, B, Q, M⟩)]) (by simp [results, Try.results33, go_sem, r0, r1]) rfl ⟨?_, (HB.out.setCell (by simp) _).setCell (by simp) _⟩
    simp [entV, H0.out]

set_option maxRecDepth 100000 in
set_option maxHeartbeats 4000000 in
theorem rposs_any (N : Nat) (hN1 : 1 ≤ N) (hN : N ≤ 12) (l : List AM) (a : Option Addr) (cap : Nat) (w : World) (ok : ∀ a, a ∈ l → Ok N 1000000 a) (hl : Rd w a l) (hlen : l.length ≤ 1000000) :
    Calls Try.prog 81 #[.int .i64 N, .slice a l.length cap] w (RetB (.bool (possB l)) w) := by
  go_enter Try.func81, Try.ntmps81
  go_wp2_with (go_at_call 60; fail)
  refine (tight_any N hN1 hN l ok a cap _ hl hlen).mono ?_
  rintro e w1 ⟨hb, hor⟩
  have HB := hid hb
  clear hb
  rcases hor with ⟨hp, rfl⟩ | ⟨g, cg, R, m, rfl, hmx, ht⟩
  · have HE := hid hp
    clear hp
    go_wp2
    go_ret
    exact ⟨ret_bool HE.out.symm, HB.out⟩
  · have HE := hid ht.poss
    clear hmx ht
    go_wp2
    go_ret
    exact ⟨ret_bool HE.out.symm, HB.out⟩

set_option maxRecDepth 100000 in
set_option maxHeartbeats 4000000 in
theorem rPoss_any (n : Int) (l : List AM) (a : Option Addr) (cap : Nat) (w : World) (hl : Rd w a l) (hlen : l.length ≤ 1000000) :
    Calls Try.prog 36 #[.int .i64 n, .slice a l.length cap] w (RetB (.agg #[.bool (possV n l), .int .i64 (checkN n l)]) w) := by
  have HL := hid hl; clear hl
  have HB := hid (bnew w (.cells #[.bool false, .int .i64 0] 61))
  have HR : Hid ((w.alloc (.cells #[.bool false, .int .i64 0] 61)).heap[w.heap.size]? = some (.cells #[.bool false, .int .i64 0] 61 (0, 0))) := hid (by simp only [heap_alloc_if] <;> simp)
  by_cases h0 : checkN n l = 0
  · obtain ⟨⟨hn1, hn2⟩, _, hrs⟩ := checkN_in h0
    obtain ⟨N, rfl⟩ : ∃ N : Nat, n = (N : Int) := ⟨n.toNat, by omega⟩
    have hN : N ≤ 12 := by omega
    have hN1 : 1 ≤ N := by omega
    have HOK := hid (rights_ok hrs)
    have H0 := hid h0
    clear h0 hrs
    go_enter Try.func36, Try.ntmps36
    go_wp2_with (first
      | (go_at_call 32; (with_reducible refine (rcheck_any _ l a cap _ (HL.out.below HB.out) (by omega)).mono ?_); rw [H0.out]; rintro e w1 ⟨rfl, hb⟩; have HB := hid (HB.out.step hb); have HR := hid (keepBox hb HR.out); clear hb)
      | (go_at_call 81; (with_reducible refine (rposs_any N hN1 hN l a cap _ HOK.out (HL.out.below HB.out) hlen).mono ?_); rintro e w1 ⟨rfl, hb⟩; have HB := hid (HB.out.step hb); have HR := hid (keepBox hb HR.out); clear hb; obtain ⟨r0, r1, _, _⟩ := box2 HR.out))
    refine bodyPost_ret (v := .agg #[.bool (possB l), .int .i64 0]) (by simp [results, Try.results36, go_sem, r0, r1]) rfl ⟨?_, (HB.out.setCell (by simp) _).setCell (by simp) _⟩
    simp [possV, H0.out]
  · have hne : (checkN n l != 0) = true := by simpa using h0
    have H0 := hid h0
    clear h0
    go_enter Try.func36, Try.ntmps36
    go_wp2_with (go_at_call 32; (with_reducible refine (rcheck_any n l a cap _ (HL.out.below HB.out) (by omega)).mono ?_); rintro e w1 ⟨rfl, hb⟩; have HB := hid (HB.out.step hb); have HR := hid (keepBox hb HR.out); clear hb; obtain ⟨r0, r1, _, _⟩ := box2 HR.out)
    refine bodyPost_ret (v := .agg #[.bool false, .int .i64 (checkN n l)]) (by simp [results, Try.results36, go_sem, r0, r1]) rfl ⟨?_, (HB.out.setCell (by simp) _).setCell (by simp) _⟩
    simp [possV, H0.out]
end Go.Proofs.Ytnjbahiaelehkaa
