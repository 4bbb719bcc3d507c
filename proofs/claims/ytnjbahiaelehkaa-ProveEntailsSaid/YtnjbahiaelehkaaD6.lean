/- The reference's most, Most, Span, possible, Possible. -/
import Derived.Test.YtnjbahiaelehkaaD5
import Derived.Test.YtnjbahiaelehkaaA15
namespace Go.Proofs.Ytnjbahiaelehkaa
open Go.RowKit

/-- The matrix holds small numbers, or RF. -/
def SmallM (N : Nat) (m : Nat → Nat → Int) : Prop := ∀ i j, i < N → j < N → m i j ≤ RF ∧ -2000000000 ≤ m i j

set_option maxRecDepth 100000 in
set_option maxHeartbeats 2000000 in
theorem rmost_any (n : Nat) (hn : n ≤ 12) (A P B Q M : Int) (o : Ok n 1000000 ⟨A, P, B, Q, M⟩) (base g cap : Nat) (R : Nat → Nat) (m : Nat → Nat → Int) (w : World) (hm : MX w base g (2 * n) R m) (hsm : SmallM (2 * n) m) :
    Calls Try.prog 61 #[.slice (some ⟨g, 0, none⟩) (2 * n) cap, .agg #[.int .i64 A, .int .i64 P, .int .i64 B, .int .i64 Q, .int .i64 M]] w (RetB (.int .i64 (mostR m ⟨A, P, B, Q, M⟩)) w) := by
  have HM := hid (hm.below (bnew w (.cells #[.int .i64 A, .int .i64 P, .int .i64 B, .int .i64 Q, .int .i64 M] 24)))
  clear hm
  have HS := hid hsm
  clear hsm
  have oA : 0 ≤ A := o.a0
  have oA2 : A < n := o.an
  have oP : P = 1 ∨ P = -1 := o.p
  have hx := nd_lt (s := P) oA oA2
  obtain ⟨x, hxe⟩ : ∃ x, x = nd A P := ⟨_, rfl⟩
  rw [← hxe] at hx
  have hxo := ot_lt hx
  have i1 : (x : Int) < 2 * (n : Int) := by omega
  have hb := bnew w (.cells #[.int .i64 A, .int .i64 P, .int .i64 B, .int .i64 Q, .int .i64 M] 24)
  have HB := hid hb
  clear hb
  by_cases hq : Q = 0
  · have hqb : (Q == 0) = true := by simpa using hq
    have i2 : ((ot x : Nat) : Int) < 2 * (n : Int) := by omega
    obtain ⟨c1, e1⟩ := HM.out.hd (ot x) hxo
    have q1 := HM.out.cell hxo hx
    have hs := HS.out (ot x) x hxo hx
    obtain ⟨v, hv⟩ : ∃ v, v = m (ot x) x := ⟨_, rfl⟩
    rw [← hv] at q1 hs
    obtain ⟨hs1, hs2⟩ := hs
    by_cases hf : RF ≤ v
    · have d1 : decide (1125899906842624 ≤ v) = true := by simpa using hf
      have E : Hid (mostR m ⟨A, P, B, Q, M⟩ = RF) := hid (by
        unfold mostR
        rw [if_pos hq]
        show (if RF ≤ m (ot (nd A P)) (nd A P) then RF else _) = RF
        rw [← hxe, ← hv, if_pos hf])
      have HX := hid hxe
      clear hxe hq hv o
      go_enter Try.func61, Try.ntmps61
      go_wp2_with (first | (go_at_call 105; (with_reducible refine (rnode_any A P oA (by omega) oP _).mono ?_); rw [← HX.out]; rintro e w' ⟨rfl, rfl⟩) | (go_at_call 103; (with_reducible refine (rother_any x (by omega) _).mono ?_); rintro e w' ⟨rfl, rfl⟩))
      go_ret
      exact ⟨ret_int E.out.symm, HB.out⟩
    · have d1 : decide (1125899906842624 ≤ v) = false := by simpa using hf
      have E : Hid (mostR m ⟨A, P, B, Q, M⟩ = v / 2) := hid (by
        unfold mostR
        rw [if_pos hq]
        show (if RF ≤ m (ot (nd A P)) (nd A P) then RF else m (ot (nd A P)) (nd A P) / 2) = v / 2
        rw [← hxe, ← hv, if_neg hf])
      have HX := hid hxe
      have hR := rfv
      have hv2 : v ≤ 2305843009213693952 := by omega
      clear hxe hq hv o hR
      go_enter Try.func61, Try.ntmps61
      go_wp2_with (first | (go_at_call 105; (with_reducible refine (rnode_any A P oA (by omega) oP _).mono ?_); rw [← HX.out]; rintro e w' ⟨rfl, rfl⟩) | (go_at_call 103; (with_reducible refine (rother_any x (by omega) _).mono ?_); rintro e w' ⟨rfl, rfl⟩) | (go_at_call 104; (with_reducible refine (rhalf_any v (by omega) _).mono ?_); rintro e w' ⟨rfl, rfl⟩))
      go_ret
      exact ⟨ret_int E.out.symm, HB.out⟩
  · have hqb : (Q == 0) = false := by simpa using hq
    have oB : 0 ≤ B ∧ B < n ∧ B ≠ A := o.b1 hq
    have oQ : Q = 1 ∨ Q = -1 := by
      have h : Q = 0 ∨ Q = 1 ∨ Q = -1 := o.q
      omega
    obtain ⟨oB1, oB2, _⟩ := oB
    have hy := nd_lt (s := Q) oB1 oB2
    obtain ⟨y, hye⟩ : ∃ x, x = nd B Q := ⟨_, rfl⟩
    rw [← hye] at hy
    have hyo := ot_lt hy
    have i2 : ((ot y : Nat) : Int) < 2 * (n : Int) := by omega
    obtain ⟨c1, e1⟩ := HM.out.hd (ot y) hyo
    have q1 := HM.out.cell hyo hx
    obtain ⟨v, hv⟩ : ∃ v, v = m (ot y) x := ⟨_, rfl⟩
    rw [← hv] at q1
    have E : Hid (mostR m ⟨A, P, B, Q, M⟩ = v) := hid (by
      unfold mostR
      rw [if_neg hq]
      show m (ot (nd B Q)) (nd A P) = v
      rw [← hxe, ← hye, ← hv])
    have HX := hid hxe
    have HY := hid hye
    clear hxe hye hq hv o
    go_enter Try.func61, Try.ntmps61
    go_wp2_with (first | (go_at_call 105; (with_reducible refine (rnode_any A P oA (by omega) oP _).mono ?_); rw [← HX.out]; rintro e w' ⟨rfl, rfl⟩) | (go_at_call 105; (with_reducible refine (rnode_any B Q oB1 (by omega) oQ _).mono ?_); rw [← HY.out]; rintro e w' ⟨rfl, rfl⟩) | (go_at_call 103; (with_reducible refine (rother_any y (by omega) _).mono ?_); rintro e w' ⟨rfl, rfl⟩))
    go_ret
    exact ⟨ret_int E.out.symm, HB.out⟩
theorem keepBox {w w' : World} {b : Nat} {o : Obj} (hb : Below w.heap.size w w') (h : w.heap[b]? = some o) : w'.heap[b]? = some o := (hb.block b (lt_of_heap h)).trans h
theorem box2 {W : World} {b : Nat} {x y : Value} {T : TypeId} (h : W.heap[b]? = some (.cells #[x, y] T (0, 0))) : W.cell? ⟨b, 0, none⟩ = some x ∧ W.cell? ⟨b, 1, none⟩ = some y ∧ W.frozen? ⟨b, 0, none⟩ = false ∧ W.frozen? ⟨b, 1, none⟩ = false := by
  simp [World.cell?, World.frozen?, h]
theorem box3 {W : World} {b : Nat} {x y z : Value} {T : TypeId} (h : W.heap[b]? = some (.cells #[x, y, z] T (0, 0))) : W.cell? ⟨b, 0, none⟩ = some x ∧ W.cell? ⟨b, 1, none⟩ = some y ∧ W.cell? ⟨b, 2, none⟩ = some z ∧ W.frozen? ⟨b, 0, none⟩ = false ∧ W.frozen? ⟨b, 1, none⟩ = false ∧ W.frozen? ⟨b, 2, none⟩ = false := by
  simp [World.cell?, World.frozen?, h]

theorem mostR_low {n : Nat} {m : Nat → Nat → Int} {a : AM} (o : Ok n 1000000 a) (h : SmallM (2 * n) m) : -2000000000 ≤ mostR m a := by
  have hR := rfv
  have hx := nd_lt (s := a.P) o.a0 o.an
  unfold mostR
  by_cases hq : a.Q = 0
  · rw [if_pos hq]
    have := h _ _ (ot_lt hx) hx
    split <;> omega
  · rw [if_neg hq]
    obtain ⟨b0, b1, _⟩ := o.b1 hq
    exact (h _ _ (ot_lt (nd_lt (s := a.Q) b0 b1)) hx).2
/-- What the reference's Most returns; its number is not large. -/
def MostP (n : Int) (l : List AM) (x : AM) (w : World) (e : Ending) (w' : World) : Prop := e = .returned (.agg #[.int .i64 (mostV n l x), .int .i64 (mostC n l x)]) ∧ Below w.heap.size w w' ∧ -2000000000 ≤ mostV n l x ∧ mostV n l x ≤ RF
set_option maxRecDepth 100000 in
set_option maxHeartbeats 4000000 in
theorem rMost_any (n : Int) (l : List AM) (A P B Q M : Int) (a : Option Addr) (cap : Nat) (w : World) (hl : Rd w a l) (hlen : l.length ≤ 1000000) :
    Calls Try.prog 19 #[.int .i64 n, .slice a l.length cap, .agg #[.int .i64 A, .int .i64 P, .int .i64 B, .int .i64 Q, .int .i64 M]] w (MostP n l ⟨A, P, B, Q, M⟩ w) := by
  have hR := rfv
  have HRF := hid hR
  clear hR
  have HL := hid hl; clear hl
  have HB := hid (bmore (bnew w (.cells #[.int .i64 A, .int .i64 P, .int .i64 B, .int .i64 Q, .int .i64 M] 24)) (.cells #[.int .i64 0, .int .i64 0] 31))
  have HX : Hid (((w.alloc (.cells #[.int .i64 A, .int .i64 P, .int .i64 B, .int .i64 Q, .int .i64 M] 24)).alloc (.cells #[.int .i64 0, .int .i64 0] 31)).heap[w.heap.size]? = some (.cells #[.int .i64 A, .int .i64 P, .int .i64 B, .int .i64 Q, .int .i64 M] 24 (0, 0))) := hid (by simp only [heap_alloc_if, World.size_alloc] <;> simp)
  have HR : Hid (((w.alloc (.cells #[.int .i64 A, .int .i64 P, .int .i64 B, .int .i64 Q, .int .i64 M] 24)).alloc (.cells #[.int .i64 0, .int .i64 0] 31)).heap[w.heap.size + 1]? = some (.cells #[.int .i64 0, .int .i64 0] 31 (0, 0))) := hid (by simp only [heap_alloc_if, World.size_alloc] <;> simp)
  by_cases h0 : lineN n l ⟨A, P, B, Q, M⟩ = 0
  · obtain ⟨hc0, hr0⟩ := lineN_zero h0
    obtain ⟨⟨hn1, hn2⟩, _, hrs⟩ := checkN_in hc0
    obtain ⟨N, rfl⟩ : ∃ N : Nat, n = (N : Int) := ⟨n.toNat, by omega⟩
    have hN : N ≤ 12 := by omega
    have hN1 : 1 ≤ N := by omega
    have HOK := hid (rights_ok hrs)
    have HO := hid (right_ok hr0)
    have H0 := hid h0
    clear h0 hc0 hr0 hrs
    go_enter Try.func19, Try.ntmps19
    go_upto_region 4 with (go_at_call 59; (with_reducible refine (asked_any _ l A P B Q M a cap _ (HL.out.below HB.out) (by omega)).mono ?_); rw [H0.out]; rintro e w1 ⟨rfl, hb⟩; have HB := hid (HB.out.step hb); have HX := hid (keepBox hb HX.out); have HR := hid (keepBox hb HR.out); clear hb)
    go_wp2_with (go_at_call 60; fail)
    refine (tight_any N hN1 hN l HOK.out a cap _ (HL.out.below HB.out) hlen).mono ?_
    rintro e w1 ⟨hb, hor⟩
    have HB := hid (HB.out.step hb)
    have HX := hid (keepBox hb HX.out); have HR := hid (keepBox hb HR.out)
    clear hb
    rcases hor with ⟨hp, rfl⟩ | ⟨g, cg, R, m, rfl, hmx, ht⟩
    · have HP := hid hp
      clear hp
      obtain ⟨r0, r1, z0, z1⟩ := box2 HR.out
      go_wp2
      refine bodyPost_ret (v := .agg #[.int .i64 0, .int .i64 10]) (by simp [results, Try.results19, go_sem, r0, r1]) rfl ⟨?_, (HB.out.setCell (by simp) _).setCell (by simp) _, ?_⟩
      all_goals simp [mostV, mostC, mostN, mostE, H0.out, HP.out]
    · have HM := hid hmx
      have HT := hid ht
      have HSM : Hid (SmallM (2 * N) m) := hid ht.small
      clear hmx ht
      have hv : (∃ k, maxO l ⟨A, P, B, Q, M⟩ = some k ∧ mostR m ⟨A, P, B, Q, M⟩ = k ∧ k < RF) ∨ (maxO l ⟨A, P, B, Q, M⟩ = none ∧ mostR m ⟨A, P, B, Q, M⟩ = RF) := by
        obtain ⟨q1, q2⟩ := HT.out.most _ HO.out
        cases e : maxO l ⟨A, P, B, Q, M⟩ with
        | none => exact .inr ⟨rfl, q2 e⟩
        | some k => exact .inl ⟨k, rfl, q1 k e⟩
      obtain ⟨k0, k1, k2, k3, k4⟩ := AMat.of (x := ⟨A, P, B, Q, M⟩) HX.out; simp only [Nat.zero_add] at k0 k1 k2 k3 k4
      rcases hv with ⟨k, hk1, hk2, hk3⟩ | ⟨hk1, hk2⟩
      · have HK1 := hid hk1
        have HK2 := hid hk2
        have d1 : decide (1125899906842624 ≤ k) = false := by simpa using hk3
        clear hk1 hk2 hk3
        go_wp2_with (go_at_call 61; (with_reducible refine (rmost_any N hN A P B Q M HO.out _ g cg R m _ HM.out HSM.out).mono ?_); rw [HK2.out]; rintro e w1 ⟨rfl, hb⟩; have HB := hid (HB.out.step hb); have HR := hid (keepBox hb HR.out); clear hb; obtain ⟨r0, r1, z0, z1⟩ := box2 HR.out)
        refine bodyPost_ret (v := .agg #[.int .i64 k, .int .i64 0]) (by simp [results, Try.results19, go_sem, r0, r1]) rfl ⟨?_, (HB.out.setCell (by simp) _).setCell (by simp) _, ?_⟩
        · simp [mostV, mostC, mostN, mostE, H0.out, HT.out.poss, HK1.out]
        · have hlow := mostR_low HO.out HT.out.small
          rw [HK2.out] at hlow
          simp only [mostV, mostN, H0.out, HT.out.poss, HK1.out, if_true, Option.getD_some]
          exact ⟨hlow, by have := rfv; simp at d1; omega⟩
      · have HK1 := hid hk1
        have HK2 := hid hk2
        clear hk1 hk2
        go_wp2_with (go_at_call 61; (with_reducible refine (rmost_any N hN A P B Q M HO.out _ g cg R m _ HM.out HSM.out).mono ?_); rw [HK2.out]; rintro e w1 ⟨rfl, hb⟩; have HB := hid (HB.out.step hb); have HR := hid (keepBox hb HR.out); clear hb; obtain ⟨r0, r1, z0, z1⟩ := box2 HR.out)
        refine bodyPost_ret (v := .agg #[.int .i64 0, .int .i64 5]) (by simp [results, Try.results19, go_sem, r0, r1]) rfl ⟨?_, (HB.out.setCell (by simp) _).setCell (by simp) _, ?_⟩
        all_goals simp [mostV, mostC, mostN, mostE, H0.out, HT.out.poss, HK1.out]
  · have hne : (lineN n l ⟨A, P, B, Q, M⟩ != 0) = true := by simpa using h0
    have H0 := hid h0
    clear h0
    go_enter Try.func19, Try.ntmps19
    go_wp2_with (go_at_call 59; (with_reducible refine (asked_any n l A P B Q M a cap _ (HL.out.below HB.out) (by omega)).mono ?_); rintro e w1 ⟨rfl, hb⟩; have HB := hid (HB.out.step hb); have HX := hid (keepBox hb HX.out); have HR := hid (keepBox hb HR.out); clear hb; obtain ⟨r0, r1, z0, z1⟩ := box2 HR.out)
    refine bodyPost_ret (v := .agg #[.int .i64 0, .int .i64 (lineN n l ⟨A, P, B, Q, M⟩)]) (by simp [results, Try.results19, go_sem, r0, r1]) rfl ⟨?_, (HB.out.setCell (by simp) _).setCell (by simp) _, ?_⟩
    all_goals simp [mostV, mostC, H0.out]
end Go.Proofs.Ytnjbahiaelehkaa
