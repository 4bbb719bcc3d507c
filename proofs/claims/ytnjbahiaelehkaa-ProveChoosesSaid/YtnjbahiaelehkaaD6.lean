/- The reference's most, Most, Span, possible, Possible. The reference's Span. The reference's sum and Fits. The reference's entails, Entails, possible, Possible. -/
import Derived.Test.YtnjbahiaelehkaaD5
import Derived.Test.YtnjbahiaelehkaaA15
import Derived.Test.YtnjbahiaelehkaaD2
import Derived.Deep.RegionHeld3
import Derived.Test.YtnjbahiaelehkaaL1
namespace Go.Proofs.Ytnjbahiaelehkaa
open Go.RowKit


/-- The matrix holds small numbers, or RF. -/
def SmallM (N : Nat) (m : Nat → Nat → Int) : Prop := ∀ i j, i < N → j < N → m i j ≤ RF ∧ -2000000000 ≤ m i j

set_option maxRecDepth 100000 in
set_option maxHeartbeats 2000000 in
theorem rmost_any (n : Nat) (hn : n ≤ 12) (A P B Q M : Int) (o : Ok n 1000000 ⟨A, P, B, Q, M⟩) (base g cap : Nat) (R : Nat → Nat) (m : Nat → Nat → Int) (w : World) (hm : MX w base g (2 * n) R m) (hsm : SmallM (2 * n) m) :
    Calls Try.prog 61 #[.slice (some ⟨g, 0, none⟩) (2 * n) cap, .agg #[.int .i64 A, .int .i64 P, .int .i64 B, .int .i64 Q, .int .i64 M]] w (RetB (.int .i64 (mostR m ⟨A, P, B, Q, M⟩)) w) := by
  have HM := hid (hm.below (bnew w (.cells #[.int .i64 A, .int .i64 P, .int .i64 B, .int .i64 Q, .int .i64 M] 24)))
  clear hm
  have HS := hid hsm
  clear hsm
  have oA : 0 ≤ A := o.a0
  have oA2 : A < n := o.an
  have oP : P = 1 ∨ P = -1 := o.p
  have hx := nd_lt (s := P) oA oA2
  obtain ⟨x, hxe⟩ : ∃ x, x = nd A P := ⟨_, rfl⟩
  rw [← hxe] at hx
  have hxo := ot_lt hx
  have i1 : (x : Int) < 2 * (n : Int) := by omega
  have hb := bnew w (.cells #[.int .i64 A, .int .i64 P, .int .i64 B, .int .i64 Q, .int .i64 M] 24)
  have HB := hid hb
  clear hb
  by_cases hq : Q = 0
  · have hqb : (Q == 0) = true := by simpa using hq
    have i2 : ((ot x : Nat) : Int) < 2 * (n : Int) := by omega
    obtain ⟨c1, e1⟩ := HM.out.hd (ot x) hxo
    have q1 := HM.out.cell hxo hx
    have hs := HS.out (ot x) x hxo hx
    obtain ⟨v, hv⟩ : ∃ v, v = m (ot x) x := ⟨_, rfl⟩
    rw [← hv] at q1 hs
    obtain ⟨hs1, hs2⟩ := hs
    by_cases hf : RF ≤ v
    · have d1 : decide (1125899906842624 ≤ v) = true := by simpa using hf
      have E : Hid (mostR m ⟨A, P, B, Q, M⟩ = RF) := hid (by
        unfold mostR
        rw [if_pos hq]
        show (if RF ≤ m (ot (nd A P)) (nd A P) then RF else _) = RF
        rw [← hxe, ← hv, if_pos hf])
      have HX := hid hxe
      clear hxe hq hv o
      go_enter Try.func61, Try.ntmps61
      go_wp2_with (first | (go_at_call 105; (with_reducible refine (rnode_any A P oA (by omega) oP _).mono ?_); rw [← HX.out]; rintro e w' ⟨rfl, rfl⟩) | (go_at_call 103; (with_reducible refine (rother_any x (by omega) _).mono ?_); rintro e w' ⟨rfl, rfl⟩))
      go_ret
      exact ⟨ret_int E.out.symm, HB.out⟩
    · have d1 : decide (1125899906842624 ≤ v) = false := by simpa using hf
      have E : Hid (mostR m ⟨A, P, B, Q, M⟩ = v / 2) := hid (by
        unfold mostR
        rw [if_pos hq]
        show (if RF ≤ m (ot (nd A P)) (nd A P) then RF else m (ot (nd A P)) (nd A P) / 2) = v / 2
        rw [← hxe, ← hv, if_neg hf])
      have HX := hid hxe
      have hR := rfv
      have hv2 : v ≤ 2305843009213693952 := by omega
      clear hxe hq hv o hR
      go_enter Try.func61, Try.ntmps61
      go_wp2_with (first | (go_at_call 105; (with_reducible refine (rnode_any A P oA (by omega) oP _).mono ?_); rw [← HX.out]; rintro e w' ⟨rfl, rfl⟩) | (go_at_call 103; (with_reducible refine (rother_any x (by omega) _).mono ?_); rintro e w' ⟨rfl, rfl⟩) | (go_at_call 104; (with_reducible refine (rhalf_any v (by omega) _).mono ?_); rintro e w' ⟨rfl, rfl⟩))
      go_ret
      exact ⟨ret_int E.out.symm, HB.out⟩
  · have hqb : (Q == 0) = false := by simpa using hq
    have oB : 0 ≤ B ∧ B < n ∧ B ≠ A := o.b1 hq
    have oQ : Q = 1 ∨ Q = -1 := by
      have h : Q = 0 ∨ Q = 1 ∨ Q = -1 := o.q
      omega
    obtain ⟨oB1, oB2, _⟩ := oB
    have hy := nd_lt (s := Q) oB1 oB2
    obtain ⟨y, hye⟩ : ∃ x, x = nd B Q := ⟨_, rfl⟩
    rw [← hye] at hy
    have hyo := ot_lt hy
    have i2 : ((ot y : Nat) : Int) < 2 * (n : Int) := by omega
    obtain ⟨c1, e1⟩ := HM.out.hd (ot y) hyo
    have q1 := HM.out.cell hyo hx
    obtain ⟨v, hv⟩ : ∃ v, v = m (ot y) x := ⟨_, rfl⟩
    rw [← hv] at q1
    have E : Hid (mostR m ⟨A, P, B, Q, M⟩ = v) := hid (by
      unfold mostR
      rw [if_neg hq]
      show m (ot (nd B Q)) (nd A P) = v
      rw [← hxe, ← hye, ← hv])
    have HX := hid hxe
    have HY := hid hye
    clear hxe hye hq hv o
    go_enter Try.func61, Try.ntmps61
    go_wp2_with (first | (go_at_call 105; (with_reducible refine (rnode_any A P oA (by omega) oP _).mono ?_); rw [← HX.out]; rintro e w' ⟨rfl, rfl⟩) | (go_at_call 105; (with_reducible refine (rnode_any B Q oB1 (by omega) oQ _).mono ?_); rw [← HY.out]; rintro e w' ⟨rfl, rfl⟩) | (go_at_call 103; (with_reducible refine (rother_any y (by omega) _).mono ?_); rintro e w' ⟨rfl, rfl⟩))
    go_ret
    exact ⟨ret_int E.out.symm, HB.out⟩
theorem keepBox {w w' : World} {b : Nat} {o : Obj} (hb : Below w.heap.size w w') (h : w.heap[b]? = some o) : w'.heap[b]? = some o := (hb.block b (lt_of_heap h)).trans h
theorem box2 {W : World} {b : Nat} {x y : Value} {T : TypeId} (h : W.heap[b]? = some (.cells #[x, y] T (0, 0))) : W.cell? ⟨b, 0, none⟩ = some x ∧ W.cell? ⟨b, 1, none⟩ = some y ∧ W.frozen? ⟨b, 0, none⟩ = false ∧ W.frozen? ⟨b, 1, none⟩ = false := by
  simp [World.cell?, World.frozen?, h]
theorem box3 {W : World} {b : Nat} {x y z : Value} {T : TypeId} (h : W.heap[b]? = some (.cells #[x, y, z] T (0, 0))) : W.cell? ⟨b, 0, none⟩ = some x ∧ W.cell? ⟨b, 1, none⟩ = some y ∧ W.cell? ⟨b, 2, none⟩ = some z ∧ W.frozen? ⟨b, 0, none⟩ = false ∧ W.frozen? ⟨b, 1, none⟩ = false ∧ W.frozen? ⟨b, 2, none⟩ = false := by
  simp [World.cell?, World.frozen?, h]

theorem mostR_low {n : Nat} {m : Nat → Nat → Int} {a : AM} (o : Ok n 1000000 a) (h : SmallM (2 * n) m) : -2000000000 ≤ mostR m a := by
  have hR := rfv
  have hx := nd_lt (s := a.P) o.a0 o.an
  unfold mostR
  by_cases hq : a.Q = 0
  · rw [if_pos hq]
    have := h _ _ (ot_lt hx) hx
    split <;> omega
  · rw [if_neg hq]
    obtain ⟨b0, b1, _⟩ := o.b1 hq
    exact (h _ _ (ot_lt (nd_lt (s := a.Q) b0 b1)) hx).2
/-- What the reference's Most returns; its number is not large. -/
def MostP (n : Int) (l : List AM) (x : AM) (w : World) (e : Ending) (w' : World) : Prop := e = .returned (.agg #[.int .i64 (mostV n l x), .int .i64 (mostC n l x)]) ∧ Below w.heap.size w w' ∧ -2000000000 ≤ mostV n l x ∧ mostV n l x ≤ RF
set_option maxRecDepth 100000 in
set_option maxHeartbeats 4000000 in
theorem rMost_any (n : Int) (l : List AM) (A P B Q M : Int) (a : Option Addr) (cap : Nat) (w : World) (hl : Rd w a l) (hlen : l.length ≤ 1000000) :
    Calls Try.prog 19 #[.int .i64 n, .slice a l.length cap, .agg #[.int .i64 A, .int .i64 P, .int .i64 B, .int .i64 Q, .int .i64 M]] w (MostP n l ⟨A, P, B, Q, M⟩ w) := by
  have hR := rfv
  have HRF := hid hR
  clear hR
  have HL := hid hl; clear hl
  have HB := hid (bmore (bnew w (.cells #[.int .i64 A, .int .i64 P, .int .i64 B, .int .i64 Q, .int .i64 M] 24)) (.cells #[.int .i64 0, .int .i64 0] 31))
  have HX : Hid (((w.alloc (.cells #[.int .i64 A, .int .i64 P, .int .i64 B, .int .i64 Q, .int .i64 M] 24)).alloc (.cells #[.int .i64 0, .int .i64 0] 31)).heap[w.heap.size]? = some (.cells #[.int .i64 A, .int .i64 P, .int .i64 B, .int .i64 Q, .int .i64 M] 24 (0, 0))) := hid (by simp only [heap_alloc_if, World.size_alloc] <;> simp)
  have HR : Hid (((w.alloc (.cells #[.int .i64 A, .int .i64 P, .int .i64 B, .int .i64 Q, .int .i64 M] 24)).alloc (.cells #[.int .i64 0, .int .i64 0] 31)).heap[w.heap.size + 1]? = some (.cells #[.int .i64 0, .int .i64 0] 31 (0, 0))) := hid (by simp only [heap_alloc_if, World.size_alloc] <;> simp)
  by_cases h0 : lineN n l ⟨A, P, B, Q, M⟩ = 0
  · obtain ⟨hc0, hr0⟩ := lineN_zero h0
    obtain ⟨⟨hn1, hn2⟩, _, hrs⟩ := checkN_in hc0
    obtain ⟨N, rfl⟩ : ∃ N : Nat, n = (N : Int) := ⟨n.toNat, by omega⟩
    have hN : N ≤ 12 := by omega
    have hN1 : 1 ≤ N := by omega
    have HOK := hid (rights_ok hrs)
    have HO := hid (right_ok hr0)
    have H0 := hid h0
    clear h0 hc0 hr0 hrs
    go_enter Try.func19, Try.ntmps19
    go_upto_region 4 with (go_at_call 59; (with_reducible refine (asked_any _ l A P B Q M a cap _ (HL.out.below HB.out) (by omega)).mono ?_); rw [H0.out]; rintro e w1 ⟨rfl, hb⟩; have HB := hid (HB.out.step hb); have HX := hid (keepBox hb HX.out); have HR := hid (keepBox hb HR.out); clear hb)
    go_wp2_with (go_at_call 60; fail)
    refine (tight_any N hN1 hN l HOK.out a cap _ (HL.out.below HB.out) hlen).mono ?_
    rintro e w1 ⟨hb, hor⟩
    have HB := hid (HB.out.step hb)
    have HX := hid (keepBox hb HX.out); have HR := hid (keepBox hb HR.out)
    clear hb
    rcases hor with ⟨hp, rfl⟩ | ⟨g, cg, R, m, rfl, hmx, ht⟩
    · have HP := hid hp
      clear hp
      obtain ⟨r0, r1, z0, z1⟩ := box2 HR.out
      go_wp2
      refine bodyPost_ret (v := .agg #[.int .i64 0, .int .i64 10]) (by simp [results, Try.results19, go_sem, r0, r1]) rfl ⟨?_, (HB.out.setCell (by simp) _).setCell (by simp) _, ?_⟩
      all_goals simp [mostV, mostC, mostN, mostE, H0.out, HP.out]
    · have HM := hid hmx
      have HT := hid ht
      have HSM : Hid (SmallM (2 * N) m) := hid ht.small
      clear hmx ht
      have hv : (∃ k, maxO l ⟨A, P, B, Q, M⟩ = some k ∧ mostR m ⟨A, P, B, Q, M⟩ = k ∧ k < RF) ∨ (maxO l ⟨A, P, B, Q, M⟩ = none ∧ mostR m ⟨A, P, B, Q, M⟩ = RF) := by
        obtain ⟨q1, q2⟩ := HT.out.most _ HO.out
        cases e : maxO l ⟨A, P, B, Q, M⟩ with
        | none => exact .inr ⟨rfl, q2 e⟩
        | some k => exact .inl ⟨k, rfl, q1 k e⟩
      obtain ⟨k0, k1, k2, k3, k4⟩ := AMat.of (x := ⟨A, P, B, Q, M⟩) HX.out; simp only [Nat.zero_add] at k0 k1 k2 k3 k4
      rcases hv with ⟨k, hk1, hk2, hk3⟩ | ⟨hk1, hk2⟩
      · have HK1 := hid hk1
        have HK2 := hid hk2
        have d1 : decide (1125899906842624 ≤ k) = false := by simpa using hk3
        clear hk1 hk2 hk3
        go_wp2_with (go_at_call 61; (with_reducible refine (rmost_any N hN A P B Q M HO.out _ g cg R m _ HM.out HSM.out).mono ?_); rw [HK2.out]; rintro e w1 ⟨rfl, hb⟩; have HB := hid (HB.out.step hb); have HR := hid (keepBox hb HR.out); clear hb; obtain ⟨r0, r1, z0, z1⟩ := box2 HR.out)
        refine bodyPost_ret (v := .agg #[.int .i64 k, .int .i64 0]) (by simp [results, Try.results19, go_sem, r0, r1]) rfl ⟨?_, (HB.out.setCell (by simp) _).setCell (by simp) _, ?_⟩
        · simp [mostV, mostC, mostN, mostE, H0.out, HT.out.poss, HK1.out]
        · have hlow := mostR_low HO.out HT.out.small
          rw [HK2.out] at hlow
          simp only [mostV, mostN, H0.out, HT.out.poss, HK1.out, if_true, Option.getD_some]
          exact ⟨hlow, by have := rfv; simp at d1; omega⟩
      · have HK1 := hid hk1
        have HK2 := hid hk2
        clear hk1 hk2
        go_wp2_with (go_at_call 61; (with_reducible refine (rmost_any N hN A P B Q M HO.out _ g cg R m _ HM.out HSM.out).mono ?_); rw [HK2.out]; rintro e w1 ⟨rfl, hb⟩; have HB := hid (HB.out.step hb); have HR := hid (keepBox hb HR.out); clear hb; obtain ⟨r0, r1, z0, z1⟩ := box2 HR.out)
        refine bodyPost_ret (v := .agg #[.int .i64 0, .int .i64 5]) (by simp [results, Try.results19, go_sem, r0, r1]) rfl ⟨?_, (HB.out.setCell (by simp) _).setCell (by simp) _, ?_⟩
        all_goals simp [mostV, mostC, mostN, mostE, H0.out, HT.out.poss, HK1.out]
  · have hne : (lineN n l ⟨A, P, B, Q, M⟩ != 0) = true := by simpa using h0
    have H0 := hid h0
    clear h0
    go_enter Try.func19, Try.ntmps19
    go_wp2_with (go_at_call 59; (with_reducible refine (asked_any n l A P B Q M a cap _ (HL.out.below HB.out) (by omega)).mono ?_); rintro e w1 ⟨rfl, hb⟩; have HB := hid (HB.out.step hb); have HX := hid (keepBox hb HX.out); have HR := hid (keepBox hb HR.out); clear hb; obtain ⟨r0, r1, z0, z1⟩ := box2 HR.out)
    refine bodyPost_ret (v := .agg #[.int .i64 0, .int .i64 (lineN n l ⟨A, P, B, Q, M⟩)]) (by simp [results, Try.results19, go_sem, r0, r1]) rfl ⟨?_, (HB.out.setCell (by simp) _).setCell (by simp) _, ?_⟩
    all_goals simp [mostV, mostC, H0.out]


abbrev hiL (k : Int) : AM := ⟨k, 1, 0, 0, 0⟩
abbrev loL (k : Int) : AM := ⟨k, -1, 0, 0, 0⟩
theorem index_zero {n : Int} {l : List AM} {k : Int} (h0 : indexN n l k = 0) : checkN n l = 0 ∧ inB k 0 (n - 1) = true := by
  unfold indexN at h0
  by_cases hc : checkN n l = 0
  · rw [if_pos hc] at h0
    refine ⟨hc, ?_⟩
    by_cases hk : inB k 0 (n - 1) = true
    · exact hk
    · rw [if_neg hk] at h0; cases h0
  · rw [if_neg hc] at h0
    exact absurd h0 hc
theorem span_by {n : Int} {l : List AM} {k : Int} (h0 : indexN n l k = 0) :
    (mostC n l (hiL k) ≠ 0 → spanE n l k = mostC n l (hiL k) ∧ spanLo n l k = 0 ∧ spanHi n l k = 0) ∧
    (mostC n l (hiL k) = 0 → mostC n l (loL k) ≠ 0 → spanE n l k = mostC n l (loL k) ∧ spanLo n l k = 0 ∧ spanHi n l k = 0) ∧
    (mostC n l (hiL k) = 0 → mostC n l (loL k) = 0 → spanE n l k = 0 ∧ spanLo n l k = -(mostV n l (loL k)) ∧ spanHi n l k = mostV n l (hiL k)) := by
  obtain ⟨hc, hk⟩ := index_zero h0
  have hk' : 0 ≤ k ∧ k ≤ n - 1 := by simpa [inB] using hk
  have r1 : lineN n l (hiL k) = 0 := by
    unfold lineN
    rw [if_pos hc, if_pos]
    simp [rightB]; omega
  have r2 : lineN n l (loL k) = 0 := by
    unfold lineN
    rw [if_pos hc, if_pos]
    simp [rightB]; omega
  have g1 : spanM l k 1 = maxO l (hiL k) := rfl
  have g2 : spanM l k (-1) = maxO l (loL k) := rfl
  unfold spanE spanLo spanHi mostC mostV mostE mostN
  rw [if_pos r1, if_pos r2, if_pos r1, if_pos r2, if_pos h0, g1, g2]
  cases hp : possB l with
  | false => simp
  | true =>
    cases e1 : maxO l (hiL k) with
    | none => cases e2 : maxO l (loL k) <;> simp
    | some x => cases e2 : maxO l (loL k) <;> simp [h0]

/-- What the reference's Span returns. -/
def SpanP (n : Int) (l : List AM) (k : Int) (w : World) (e : Ending) (w' : World) : Prop := e = .returned (.agg #[.int .i64 (spanLo n l k), .int .i64 (spanHi n l k), .int .i64 (spanE n l k)]) ∧ Below w.heap.size w w'

set_option maxRecDepth 100000 in
set_option maxHeartbeats 4000000 in
theorem rSpan_any (n : Int) (l : List AM) (k : Int) (a : Option Addr) (cap : Nat) (w : World) (hl : Rd w a l) (hlen : l.length ≤ 1000000) :
    Calls Try.prog 21 #[.int .i64 n, .slice a l.length cap, .int .i64 k] w (SpanP n l k w) := by
  have HL := hid hl; clear hl
  have HB := hid (bnew w (.cells #[.int .i64 0, .int .i64 0, .int .i64 0] 36))
  have HR : Hid ((w.alloc (.cells #[.int .i64 0, .int .i64 0, .int .i64 0] 36)).heap[w.heap.size]? = some (.cells #[.int .i64 0, .int .i64 0, .int .i64 0] 36 (0, 0))) := hid (by simp only [heap_alloc_if] <;> simp)
  by_cases h0 : checkN n l = 0
  · obtain ⟨⟨hn1, hn2⟩, _, _⟩ := checkN_in h0
    have H0 := hid h0
    by_cases hk : inB k 0 (n - 1) = true
    · have hi : indexN n l k = 0 := by unfold indexN; rw [if_pos h0, if_pos hk]
      have HS := hid (span_by hi)
      have HK := hid hk
      clear h0 hk hi
      go_enter Try.func21, Try.ntmps21
      go_upto_region 7 with (first
        | (go_at_call 32; (with_reducible refine (rcheck_any n l a cap _ (HL.out.below HB.out) (by omega)).mono ?_); rw [H0.out]; rintro e w1 ⟨rfl, hb⟩; have HB := hid (HB.out.step hb); have HR := hid (keepBox hb HR.out); clear hb)
        | (go_at_call 64; (with_reducible refine (in_any k 0 (n - 1) _).mono ?_); rw [HK.out]; rintro e w2 ⟨rfl, rfl⟩))
      go_upto_region 8 with (go_at_call 19; (with_reducible refine (rMost_any n l k 1 0 0 0 a cap _ (HL.out.below HB.out) hlen).mono ?_); rintro e w1 ⟨rfl, hb, m1, m2⟩; have HB := hid (HB.out.step hb); have HR := hid (keepBox hb HR.out); clear hb; clear m1 m2)
      have HB := hid (bmore HB.out (.cells #[.int .i64 (mostV n l (hiL k)), .int .i64 (mostC n l (hiL k))] 31))
      have HQ : Hid ((w1.alloc (.cells #[.int .i64 (mostV n l (hiL k)), .int .i64 (mostC n l (hiL k))] 31)).heap[w1.heap.size]? = some (.cells #[.int .i64 (mostV n l (hiL k)), .int .i64 (mostC n l (hiL k))] 31 (0, 0))) := hid (by simp only [heap_alloc_if] <;> simp)
      have HR := hid (keepBox (bnew _ (.cells #[.int .i64 (mostV n l (hiL k)), .int .i64 (mostC n l (hiL k))] 31)) HR.out)
      generalize w1.alloc (.cells #[.int .i64 (mostV n l (hiL k)), .int .i64 (mostC n l (hiL k))] 31) = W1 at *
      generalize w1.heap.size = q1 at *
      go_upto_region 9 with (go_at_call 19; (with_reducible refine (rMost_any n l k (-1) 0 0 0 a cap _ (HL.out.below HB.out) hlen).mono ?_); rintro e w1 ⟨rfl, hb, m1, m2⟩; have HB := hid (HB.out.step hb); have HR := hid (keepBox hb HR.out); have HQ := hid (keepBox hb HQ.out); clear hb; have MB : Hid (-2000000000 ≤ mostV n l (loL k) ∧ mostV n l (loL k) ≤ RF) := hid ⟨m1, m2⟩; clear m1 m2)
      have HB := hid (bmore HB.out (.cells #[.int .i64 (mostV n l (loL k)), .int .i64 (mostC n l (loL k))] 31))
      have HP : Hid ((w1.alloc (.cells #[.int .i64 (mostV n l (loL k)), .int .i64 (mostC n l (loL k))] 31)).heap[w1.heap.size]? = some (.cells #[.int .i64 (mostV n l (loL k)), .int .i64 (mostC n l (loL k))] 31 (0, 0))) := hid (by simp only [heap_alloc_if] <;> simp)
      have HR := hid (keepBox (bnew _ (.cells #[.int .i64 (mostV n l (loL k)), .int .i64 (mostC n l (loL k))] 31)) HR.out)
      have HQ := hid (keepBox (bnew _ (.cells #[.int .i64 (mostV n l (loL k)), .int .i64 (mostC n l (loL k))] 31)) HQ.out)
      generalize w1.alloc (.cells #[.int .i64 (mostV n l (loL k)), .int .i64 (mostC n l (loL k))] 31) = W2 at *
      generalize w1.heap.size = q2 at *
      obtain ⟨r0, r1, r2, z0, z1, z2⟩ := box3 HR.out
      obtain ⟨p0, p1, _, _⟩ := box2 HP.out
      obtain ⟨s0, s1, _, _⟩ := box2 HQ.out
      obtain ⟨j1, j2, j3⟩ := HS.out
      obtain ⟨E1, hE1⟩ : ∃ E, E = mostC n l (hiL k) := ⟨_, rfl⟩
      obtain ⟨E2, hE2⟩ : ∃ E, E = mostC n l (loL k) := ⟨_, rfl⟩
      obtain ⟨V1, hV1⟩ : ∃ E, E = mostV n l (hiL k) := ⟨_, rfl⟩
      obtain ⟨V2, hV2⟩ : ∃ E, E = mostV n l (loL k) := ⟨_, rfl⟩
      have MB := MB.out
      rw [← hE1, ← hE2, ← hV1, ← hV2] at j3
      rw [← hE1, ← hE2] at j2
      rw [← hE1] at j1
      rw [← hV2] at MB p0
      rw [← hE2] at p1
      rw [← hV1] at s0
      rw [← hE1] at s1
      have J1 := hid j1
      have J2 := hid j2
      have J3 := hid j3
      clear j1 j2 j3 hE1 hE2 hV1 hV2 HP HQ
      obtain ⟨mb1, mb2⟩ := MB
      have mb3 : V2 ≤ 1125899906842624 := mb2
      clear mb2
      by_cases h1 : E1 = 0
      · by_cases h2 : E2 = 0
        · obtain ⟨g1, g2, g3⟩ := J3.out h1 h2
          have G := hid (And.intro g1 (And.intro g2 g3))
          have b1 : (E1 != 0) = false := by simpa using h1
          have b2 : (E2 != 0) = false := by simpa using h2
          clear g1 g2 g3 h1 h2
          go_wp2
          refine bodyPost_ret (v := .agg #[.int .i64 (-V2), .int .i64 V1, .int .i64 0]) (by simp [results, Try.results21, go_sem, r0, r1, r2]) rfl ⟨?_, ((HB.out.setCell (by simp) _).setCell (by simp) _).setCell (by simp) _⟩
          rw [G.out.1, G.out.2.1, G.out.2.2]
        · obtain ⟨g1, g2, g3⟩ := J2.out h1 h2
          have G := hid (And.intro g1 (And.intro g2 g3))
          have b1 : (E1 != 0) = false := by simpa using h1
          have b2 : (E2 != 0) = true := by simpa using h2
          clear g1 g2 g3 h1 h2
          go_wp2
          refine bodyPost_ret (v := .agg #[.int .i64 0, .int .i64 0, .int .i64 E2]) (by simp [results, Try.results21, go_sem, r0, r1, r2]) rfl ⟨?_, ((HB.out.setCell (by simp) _).setCell (by simp) _).setCell (by simp) _⟩
          rw [G.out.1, G.out.2.1, G.out.2.2]
      · obtain ⟨g1, g2, g3⟩ := J1.out h1
        have G := hid (And.intro g1 (And.intro g2 g3))
        have b1 : (E1 != 0) = true := by simpa using h1
        clear g1 g2 g3 h1
        go_wp2
        refine bodyPost_ret (v := .agg #[.int .i64 0, .int .i64 0, .int .i64 E1]) (by simp [results, Try.results21, go_sem, r0, r1, r2]) rfl ⟨?_, ((HB.out.setCell (by simp) _).setCell (by simp) _).setCell (by simp) _⟩
        rw [G.out.1, G.out.2.1, G.out.2.2]
    · have hkf : inB k 0 (n - 1) = false := by simpa using hk
      have hi : indexN n l k = 1 := by unfold indexN; rw [if_pos h0, if_neg hk]
      have HI := hid hi
      have HK := hid hkf
      clear h0 hk hkf hi
      go_enter Try.func21, Try.ntmps21
      go_wp2_with (first
        | (go_at_call 32; (with_reducible refine (rcheck_any n l a cap _ (HL.out.below HB.out) (by omega)).mono ?_); rw [H0.out]; rintro e w1 ⟨rfl, hb⟩; have HB := hid (HB.out.step hb); have HR := hid (keepBox hb HR.out); clear hb)
        | (go_at_call 64; (with_reducible refine (in_any k 0 (n - 1) _).mono ?_); rw [HK.out]; rintro e w2 ⟨rfl, rfl⟩; obtain ⟨r0, r1, r2, z0, z1, z2⟩ := box3 HR.out))
      refine bodyPost_ret (v := .agg #[.int .i64 0, .int .i64 0, .int .i64 1]) (by simp [results, Try.results21, go_sem, r0, r1, r2]) rfl ⟨?_, ((HB.out.setCell (by simp) _).setCell (by simp) _).setCell (by simp) _⟩
      simp [spanE, spanLo, spanHi, HI.out]
  · have hne : (checkN n l != 0) = true := by simpa using h0
    have hi : indexN n l k = checkN n l := by unfold indexN; rw [if_neg h0]
    have HI := hid hi
    have H0 := hid h0
    clear h0 hi
    go_enter Try.func21, Try.ntmps21
    go_wp2_with (go_at_call 32; (with_reducible refine (rcheck_any n l a cap _ (HL.out.below HB.out) (by omega)).mono ?_); rintro e w1 ⟨rfl, hb⟩; have HB := hid (HB.out.step hb); have HR := hid (keepBox hb HR.out); clear hb; obtain ⟨r0, r1, r2, z0, z1, z2⟩ := box3 HR.out)
    refine bodyPost_ret (v := .agg #[.int .i64 0, .int .i64 0, .int .i64 (checkN n l)]) (by simp [results, Try.results21, go_sem, r0, r1, r2]) rfl ⟨?_, ((HB.out.setCell (by simp) _).setCell (by simp) _).setCell (by simp) _⟩
    simp [spanE, spanLo, spanHi, HI.out, H0.out]


set_option maxRecDepth 100000 in
set_option maxHeartbeats 2000000 in
theorem rsum_any (x : List Int) (A B : Nat) (P Q M : Int) (b : Option Addr) (cb : Nat) (w : World) (hx : RdI w b x) (hA : A < x.length) (hB : B < x.length) (hlen : x.length ≤ 1000000) (s1 s2 : Int) (w1 : IntKind.i64.wrap (P * x[A]) = s1) (w2 : IntKind.i64.wrap (Q * x[B]) = s2) (w3 : IntKind.i64.wrap (s1 + s2) = s1 + s2) :
    Calls Try.prog 72 #[.agg #[.int .i64 A, .int .i64 P, .int .i64 B, .int .i64 Q, .int .i64 M], .slice b x.length cb] w (RetB (.int .i64 (s1 + s2)) w) := by
  have hx := hx.below (bnew w (.cells #[.int .i64 A, .int .i64 P, .int .i64 B, .int .i64 Q, .int .i64 M] 24))
  obtain ⟨bx, ox, rfl, hltx, cA⟩ := hx A hA
  obtain ⟨bx', ox', hbx', _, cB⟩ := hx B hB
  cases hbx'
  have HB := hid (bnew w (.cells #[.int .i64 A, .int .i64 P, .int .i64 B, .int .i64 Q, .int .i64 M] 24))
  obtain ⟨xa, hxa⟩ : ∃ M, M = x[A] := ⟨_, rfl⟩
  obtain ⟨xb, hxb⟩ : ∃ M, M = x[B] := ⟨_, rfl⟩
  rw [← hxa] at cA w1
  rw [← hxb] at cB w2
  have e1 : min (A : Int) ((x.length : Int) - 1) = A := by omega
  have e2 : min (B : Int) ((x.length : Int) - 1) = B := by omega
  have e3 : max 0 (A : Int) = A := by omega
  have e4 : max 0 (B : Int) = B := by omega
  have e5 : IntKind.i64.wrap ((x.length : Int) - 1) = (x.length : Int) - 1 := wrapk ⟨by omega, by omega⟩
  have nA : (0 : Int) ≤ A := by omega
  have nA2 : (A : Int) < (x.length : Int) := by omega
  have nB : (0 : Int) ≤ B := by omega
  have nB2 : (B : Int) < (x.length : Int) := by omega
  clear hxa hxb hx
  go_enter Try.func72, Try.ntmps72
  go_upto_region 1 with fail
  go_quiet (fail)
  clear w1 w2 w3 e5
  go_wp2
  go_ret
  exact ⟨rfl, below_drewN HB.out _⟩

/-- What a line comes to at numbers. -/
theorem line_facts {x : List Int} {c : AM} (o : Ok x.length 1000000 c) (hall : x.all inF = true) :
    ∃ (A B : Nat) (hA : A < x.length) (hB : B < x.length) (s1 s2 : Int), c.A = A ∧ c.B = B ∧ IntKind.i64.wrap (c.P * x[A]) = s1 ∧ IntKind.i64.wrap (c.Q * x[B]) = s2 ∧ IntKind.i64.wrap (s1 + s2) = s1 + s2 ∧ badB x c = decide (c.M < s1 + s2) := by
  have oA := o.a0
  have oA2 := o.an
  have oB1 : 0 ≤ c.B := by
    by_cases hq : c.Q = 0
    · have := o.b0 hq; omega
    · have := o.b1 hq; omega
  have oB2 : c.B < (x.length : Int) := by
    by_cases hq : c.Q = 0
    · have := o.b0 hq; omega
    · have := o.b1 hq; omega
  obtain ⟨A, hA⟩ : ∃ A : Nat, c.A = (A : Int) := ⟨c.A.toNat, by omega⟩
  obtain ⟨B, hB⟩ : ∃ B : Nat, c.B = (B : Int) := ⟨c.B.toNat, by omega⟩
  have hAx : A < x.length := by omega
  have hBx : B < x.length := by omega
  have iA : -1099511627776 ≤ x[A] ∧ x[A] ≤ 1099511627776 := by simpa [inF, inB] using List.all_eq_true.1 hall x[A] (List.getElem_mem hAx)
  have iB : -1099511627776 ≤ x[B] ∧ x[B] ≤ 1099511627776 := by simpa [inF, inB] using List.all_eq_true.1 hall x[B] (List.getElem_mem hBx)
  have i1 : -1099511627776 ≤ c.P * x[A] ∧ c.P * x[A] ≤ 1099511627776 := by
    rcases o.p with h | h <;> rw [h] <;> omega
  have i2 : -1099511627776 ≤ c.Q * x[B] ∧ c.Q * x[B] ≤ 1099511627776 := by
    rcases o.q with h | h | h <;> rw [h] <;> omega
  refine ⟨A, B, hAx, hBx, c.P * x[A], c.Q * x[B], hA, hB, wrapk ⟨by omega, by omega⟩, wrapk ⟨by omega, by omega⟩, wrapk ⟨by omega, by omega⟩, ?_⟩
  unfold badB lhs fn
  rw [hA, hB, Int.toNat_natCast, Int.toNat_natCast, List.getD_eq_getElem?_getD, List.getD_eq_getElem?_getD, List.getElem?_eq_getElem hAx, List.getElem?_eq_getElem hBx]
  rfl

/-- What the reference's Fits returns. -/
def FitP (n : Int) (l : List AM) (x : List Int) (w : World) (e : Ending) (w' : World) : Prop := e = .returned (.agg #[.int .i64 (fitAt n l x), .bool (fitIs n l x), .int .i64 (fitE n l x)]) ∧ Below w.heap.size w w'
theorem HB3 {w W : World} (h : Below w.heap.size w W) (a b c : Value) (p q r : Nat) : Below w.heap.size w (((W.setCell ⟨w.heap.size, p, none⟩ a).setCell ⟨w.heap.size, q, none⟩ b).setCell ⟨w.heap.size, r, none⟩ c) := ((h.setCell (Nat.le_refl _) _).setCell (Nat.le_refl _) _).setCell (Nat.le_refl _) _
theorem all_take {p : Int → Bool} {x : List Int} {k : Nat} (hk : k < x.length) (h : ∀ y, y ∈ x.take k → p y = true) (hp : p x[k] = true) : ∀ y, y ∈ x.take (k + 1) → p y = true := by
  intro y hy
  rw [List.take_succ_eq_append_getElem hk, List.mem_append] at hy
  rcases hy with hy | hy
  · exact h y hy
  · rw [List.mem_singleton.1 hy]; exact hp

set_option maxRecDepth 100000 in
set_option maxHeartbeats 4000000 in
theorem rfits_any (n : Int) (l : List AM) (x : List Int) (a : Option Addr) (ca : Nat) (b : Option Addr) (cb : Nat) (w : World) (hl : Rd w a l) (hlen : l.length ≤ 9223372036854775807) (hx : RdI w b x) (hxl : x.length ≤ 9223372036854775807) :
    Calls Try.prog 30 #[.int .i64 n, .slice a l.length ca, .slice b x.length cb] w (FitP n l x w) := by
  have HL := hid hl; clear hl
  have HX := hid hx; clear hx
  have HB := hid (bnew w (.cells #[.int .i64 0, .bool false, .int .i64 0] 56))
  have HR : Hid ((w.alloc (.cells #[.int .i64 0, .bool false, .int .i64 0] 56)).heap[w.heap.size]? = some (.cells #[.int .i64 0, .bool false, .int .i64 0] 56 (0, 0))) := hid (by simp only [heap_alloc_if] <;> simp)
  by_cases h0 : checkN n l = 0
  · obtain ⟨⟨hn1, hn2⟩, hl40, hrs⟩ := checkN_in h0
    obtain ⟨N, rfl⟩ : ∃ N : Nat, n = (N : Int) := ⟨n.toNat, by omega⟩
    have HOK := hid (rights_ok hrs)
    have H0 := hid h0
    clear h0 hrs
    by_cases hN : x.length = N
    · have HN := hid hN
      subst hN
      clear HN
      go_enter Try.func30, Try.ntmps30
      go_wp2_with (go_at_call 32; (with_reducible refine (rcheck_any _ l a ca _ (HL.out.below HB.out) (by omega)).mono ?_); rw [H0.out]; rintro e w1 ⟨rfl, hb⟩; have HB := hid (HB.out.step hb); have HR := hid (keepBox hb HR.out); clear hb)
      go_loopw [8] (fun s wr => ∃ k : Nat, k ≤ x.length ∧ s = .int .i64 k ∧ Hid (Below w.heap.size w wr ∧ wr.heap[w.heap.size]? = some (.cells #[.int .i64 0, .bool false, .int .i64 0] 56 (0, 0)) ∧ ∀ y, y ∈ x.take k → inF y = true)) (fun s _ => x.length - (intOf s).toNat)
      case atStart => exact ⟨0, Nat.zero_le _, rfl, hid ⟨HB.out, HR.out, by simp⟩⟩
      case round =>
        obtain ⟨k, hk, rfl, HK⟩ := hrel
        by_cases hlt : k < x.length
        · obtain ⟨bx, ox, hbx, hltx, cA⟩ := HX.out.below HK.out.1 k hlt
          subst hbx
          have nk : (k : Int) < (x.length : Int) := by omega
          obtain ⟨xk, hxk⟩ : ∃ y, y = x[k] := ⟨_, rfl⟩
          rw [← hxk] at cA
          have HXK := hid hxk
          clear hxk
          by_cases hin : inF xk = true
          · have HI := hid hin
            clear hin
            go_wp2_with (go_at_call 64; (with_reducible refine (in_any xk (-1099511627776) 1099511627776 _).mono ?_); rw [show inB xk (-1099511627776) 1099511627776 = true from HI.out]; rintro e w2 ⟨rfl, rfl⟩)
            go_roundw
            case rel => exact ⟨k + 1, by omega, by go_num, hid ⟨HK.out.1, HK.out.2.1, all_take hlt HK.out.2.2 (by rw [← HXK.out]; exact HI.out)⟩⟩
            case measure => simp [intOf]; omega
          · have hinf : inF xk = false := by simpa using hin
            have HI := hid hinf
            have hall : x.all inF ≠ true := fun h => by
              have := List.all_eq_true.1 h xk (by rw [HXK.out]; exact List.getElem_mem hlt)
              exact hin this
            have hE : fitE x.length l x = 1 := by unfold fitE; rw [if_pos H0.out, if_neg (fun h => hall h.2)]
            have HE := hid hE
            obtain ⟨r0, r1, r2, z0, z1, z2⟩ := box3 HK.out.2.1
            clear hin hinf hall hE
            go_wp2_with (go_at_call 64; (with_reducible refine (in_any xk (-1099511627776) 1099511627776 _).mono ?_); rw [show inB xk (-1099511627776) 1099511627776 = false from HI.out]; rintro e w2 ⟨rfl, rfl⟩)
            refine bodyPost_ret (v := .agg #[.int .i64 0, .bool false, .int .i64 1]) (by simp [results, Try.results30, go_sem, r0, r1, r2]) rfl ⟨?_, HB3 HK.out.1 _ _ _ _ _ _⟩
            simp [fitAt, fitIs, HE.out]
        · have hke : k = x.length := by omega
          have hall : x.all inF = true := by
            rw [List.all_eq_true]
            intro y hy
            exact HK.out.2.2 y (by rw [hke, List.take_length]; exact hy)
          have hE : fitE x.length l x = 0 := by unfold fitE; rw [if_pos H0.out, if_pos ⟨rfl, hall⟩]
          have HE := hid hE
          have HA := hid hall
          have HBK := hid HK.out.1
          have HRK := hid HK.out.2.1
          clear HK hke hall hE
          go_wp2
          go_loopw [10] (fun s wx => ∃ k : Nat, k ≤ l.length ∧ s = .int .i64 k ∧ Hid (Below w.heap.size w wx ∧ wx.heap[w.heap.size]? = some (.cells #[.int .i64 0, .bool false, .int .i64 0] 56 (0, 0)) ∧ ∀ y, y ∈ l.take k → badB x y = false)) (fun s _ => l.length - (intOf s).toNat)
          case atStart => exact ⟨0, Nat.zero_le _, rfl, hid ⟨HBK.out, HRK.out, by simp⟩⟩
          case round =>
            obtain ⟨k2, hk2, rfl, HK⟩ := hrel
            by_cases hlt2 : k2 < l.length
            · obtain ⟨b2, off, ha, hlt3, h1, h2, h3, h4, h5⟩ := HL.out.below HK.out.1 k2 hlt2
              subst ha
              have o := HOK.out l[k2] (List.getElem_mem hlt2)
              obtain ⟨A, B, hA, hB, s1, s2, eA, eB, w1, w2, w3, hbd⟩ := line_facts o HA.out
              have HBD := hid hbd
              rw [eA] at h1
              rw [eB] at h3
              obtain ⟨P, hP⟩ : ∃ P, P = l[k2].P := ⟨_, rfl⟩
              obtain ⟨Q, hQ⟩ : ∃ Q, Q = l[k2].Q := ⟨_, rfl⟩
              obtain ⟨M, hMe⟩ : ∃ M, M = l[k2].M := ⟨_, rfl⟩
              rw [← hP] at h2 w1
              rw [← hQ] at h4 w2
              rw [← hMe] at h5 hbd
              have HW := hid (And.intro w1 (And.intro w2 w3))
              have HBD := hid hbd
              have n1 : (0 : Int) ≤ (k2 : Int) := by omega
              have n2 : (k2 : Int) < (l.length : Int) := by omega
              have hrb := HK.out.2.1
              have hlr := lt_of_heap hrb
              clear w1 w2 w3 hbd hP hQ hMe eA eB o hrb
              by_cases hbad : M < s1 + s2
              · have d1 : decide (M < s1 + s2) = true := by simpa using hbad
                go_upto_region 15 with fail
                go_region_held3 (fun w' => w'.cell? ⟨b2, off + k2 * 5, none⟩ = some (.int .i64 A) ∧ w'.cell? ⟨b2, off + k2 * 5 + 1, none⟩ = some (.int .i64 P) ∧ w'.cell? ⟨b2, off + k2 * 5 + 2, none⟩ = some (.int .i64 B) ∧ w'.cell? ⟨b2, off + k2 * 5 + 3, none⟩ = some (.int .i64 Q) ∧ w'.cell? ⟨b2, off + k2 * 5 + 4, none⟩ = some (.int .i64 M)) (first | exact ⟨h1, h2, h3, h4, h5⟩ | exact ⟨cell_later hb h1, cell_later hb h2, cell_later hb h3, cell_later hb h4, cell_later hb h5⟩)
                  ((go_at_call 72; (with_reducible refine (rsum_any x A B P Q M b cb _ (HX.out.below (HK.out.1.drew)) hA hB (by omega) s1 s2 HW.out.1 HW.out.2.1 HW.out.2.2).mono ?_); rintro e w1 ⟨rfl, hb⟩))
                have HBW := hid (HK.out.1.drew.step hb)
                have HRW := hid (keepBox hb HK.out.2.1)
                clear hb h1 h2 h3 h4 h5
                obtain ⟨r0, r1, r2, z0, z1, z2⟩ := box3 HRW.out
                have HFI := hid (find_some hlt2 (by rw [HBD.out]; exact d1) HK.out.2.2)
                go_wp2
                refine bodyPost_ret (v := .agg #[.int .i64 k2, .bool false, .int .i64 0]) (by simp [results, Try.results30, go_sem, r0, r1, r2]) rfl ⟨?_, HB3 HBW.out _ _ _ _ _ _⟩
                simp [fitAt, fitIs, HE.out, HFI.out]
              · have d1 : decide (M < s1 + s2) = false := by simpa using hbad
                go_upto_region 15 with fail
                go_region_held3 (fun w' => w'.cell? ⟨b2, off + k2 * 5, none⟩ = some (.int .i64 A) ∧ w'.cell? ⟨b2, off + k2 * 5 + 1, none⟩ = some (.int .i64 P) ∧ w'.cell? ⟨b2, off + k2 * 5 + 2, none⟩ = some (.int .i64 B) ∧ w'.cell? ⟨b2, off + k2 * 5 + 3, none⟩ = some (.int .i64 Q) ∧ w'.cell? ⟨b2, off + k2 * 5 + 4, none⟩ = some (.int .i64 M)) (first | exact ⟨h1, h2, h3, h4, h5⟩ | exact ⟨cell_later hb h1, cell_later hb h2, cell_later hb h3, cell_later hb h4, cell_later hb h5⟩)
                  ((go_at_call 72; (with_reducible refine (rsum_any x A B P Q M b cb _ (HX.out.below (HK.out.1.drew)) hA hB (by omega) s1 s2 HW.out.1 HW.out.2.1 HW.out.2.2).mono ?_); rintro e w1 ⟨rfl, hb⟩))
                have HBW := hid (HK.out.1.drew.step hb)
                have HRW := hid (keepBox hb HK.out.2.1)
                clear hb h1 h2 h3 h4 h5
                go_wp2
                go_roundw
                case rel =>
                  refine ⟨k2 + 1, by omega, by go_num, hid ⟨HBW.out, HRW.out, fun y hy => ?_⟩⟩
                  rw [List.take_succ_eq_append_getElem hlt2, List.mem_append] at hy
                  rcases hy with hy | hy
                  · exact HK.out.2.2 y hy
                  · rw [List.mem_singleton.1 hy, HBD.out]; exact d1
                case measure => simp [intOf]; omega
            · have hke : k2 = l.length := by omega
              have hfi : l.findIdx? (badB x) = none := find_none fun y hy => HK.out.2.2 y (by rw [hke, List.take_length]; exact hy)
              have HFI := hid hfi
              obtain ⟨r0, r1, r2, z0, z1, z2⟩ := box3 HK.out.2.1
              clear hfi hke
              go_wp2
              refine bodyPost_ret (v := .agg #[.int .i64 0, .bool true, .int .i64 0]) (by simp [results, Try.results30, go_sem, r0, r1, r2]) rfl ⟨?_, HB3 HK.out.1 _ _ _ _ _ _⟩
              simp [fitAt, fitIs, HE.out, HFI.out]
    · have hne : ((x.length : Int) != (N : Int)) = true := by simp; omega
      have hE : fitE N l x = 1 := by unfold fitE; rw [if_pos H0.out, if_neg (fun h => hN (by omega))]
      have HE := hid hE
      clear hE
      go_enter Try.func30, Try.ntmps30
      go_wp2_with (go_at_call 32; (with_reducible refine (rcheck_any _ l a ca _ (HL.out.below HB.out) (by omega)).mono ?_); rw [H0.out]; rintro e w1 ⟨rfl, hb⟩; have HB := hid (HB.out.step hb); have HR := hid (keepBox hb HR.out); clear hb; obtain ⟨r0, r1, r2, z0, z1, z2⟩ := box3 HR.out)
      refine bodyPost_ret (v := .agg #[.int .i64 0, .bool false, .int .i64 1]) (by simp [results, Try.results30, go_sem, r0, r1, r2]) rfl ⟨?_, HB3 HB.out _ _ _ _ _ _⟩
      simp [fitAt, fitIs, HE.out]
  · have hne : (checkN n l != 0) = true := by simpa using h0
    have hE : fitE n l x = checkN n l := by unfold fitE; rw [if_neg h0]
    have HE := hid hE
    have H0 := hid h0
    clear hE h0
    go_enter Try.func30, Try.ntmps30
    go_wp2_with (go_at_call 32; (with_reducible refine (rcheck_any _ l a ca _ (HL.out.below HB.out) (by omega)).mono ?_); rintro e w1 ⟨rfl, hb⟩; have HB := hid (HB.out.step hb); have HR := hid (keepBox hb HR.out); clear hb; obtain ⟨r0, r1, r2, z0, z1, z2⟩ := box3 HR.out)
    refine bodyPost_ret (v := .agg #[.int .i64 0, .bool false, .int .i64 (checkN n l)]) (by simp [results, Try.results30, go_sem, r0, r1, r2]) rfl ⟨?_, HB3 HB.out _ _ _ _ _ _⟩
    simp [fitAt, fitIs, HE.out, H0.out]


theorem ent_most {l : List AM} {a : AM} (hp : possB l = true) : entB l a = match maxO l a with | some k => decide (k ≤ a.M) | none => false := by
  cases h : maxO l a with
  | some k =>
    obtain ⟨⟨x, hx, e⟩, hm⟩ := maxO_some.1 h
    simp only
    rw [Bool.eq_iff_iff, entB_iff, decide_eq_true_eq]
    exact ⟨fun hh => by have := hh x hx; omega, fun hh y hy => by have := hm y hy; omega⟩
  | none =>
    simp only
    rw [Bool.eq_iff_iff, entB_iff]
    refine ⟨fun hh => ?_, fun hh => by cases hh⟩
    obtain ⟨x, hx⟩ := possB_iff.1 hp
    obtain ⟨m, hm⟩ := max_of_bound hh _ x hx rfl
    rw [maxO_some.2 hm] at h
    cases h
theorem ent_ref {n : Nat} {l : List AM} {m : Nat → Nat → Int} {a : AM} (ht : RefT l n m) (o : Ok n 1000000 a) : entB l a = decide (mostR m a ≤ a.M) := by
  rw [ent_most ht.poss]
  obtain ⟨q1, q2⟩ := ht.most a o
  have hR := rfv
  have := o.hi
  cases h : maxO l a with
  | some k => rw [(q1 k h).1]
  | none =>
    rw [q2 h]
    simp only
    rw [Bool.eq_iff_iff, decide_eq_true_eq]
    exact ⟨(fun h => by cases h), fun h => by omega⟩
theorem ent_no {l : List AM} {a : AM} (hp : possB l = false) : entB l a = true := entB_iff.2 fun x hx => absurd (possB_iff.2 ⟨x, hx⟩) (by rw [hp]; decide)

set_option maxRecDepth 100000 in
set_option maxHeartbeats 4000000 in
theorem rent_any (N : Nat) (hN1 : 1 ≤ N) (hN : N ≤ 12) (l : List AM) (A P B Q M : Int) (a : Option Addr) (cap : Nat) (w : World) (ok : ∀ a, a ∈ l → Ok N 1000000 a) (o : Ok N 1000000 ⟨A, P, B, Q, M⟩) (hl : Rd w a l) (hlen : l.length ≤ 1000000) :
    Calls Try.prog 77 #[.int .i64 N, .slice a l.length cap, .agg #[.int .i64 A, .int .i64 P, .int .i64 B, .int .i64 Q, .int .i64 M]] w (RetB (.bool (entB l ⟨A, P, B, Q, M⟩)) w) := by
  have HL := hid hl; clear hl
  have HB := hid (bnew w (.cells #[.int .i64 A, .int .i64 P, .int .i64 B, .int .i64 Q, .int .i64 M] 24))
  have HX : Hid ((w.alloc (.cells #[.int .i64 A, .int .i64 P, .int .i64 B, .int .i64 Q, .int .i64 M] 24)).heap[w.heap.size]? = some (.cells #[.int .i64 A, .int .i64 P, .int .i64 B, .int .i64 Q, .int .i64 M] 24 (0, 0))) := hid (by simp only [heap_alloc_if] <;> simp)
  have HOK := hid ok
  have HO := hid o
  clear ok o
  go_enter Try.func77, Try.ntmps77
  go_wp2_with (go_at_call 60; fail)
  refine (tight_any N hN1 hN l HOK.out a cap _ (HL.out.below HB.out) hlen).mono ?_
  rintro e w1 ⟨hb, hor⟩
  have HB := hid (HB.out.step hb)
  have HX := hid (keepBox hb HX.out)
  clear hb
  rcases hor with ⟨hp, rfl⟩ | ⟨g, cg, R, m, rfl, hmx, ht⟩
  · have HE := hid (ent_no (a := ⟨A, P, B, Q, M⟩) hp)
    clear hp
    go_wp2
    go_quiet (fail)
    go_wp2
    go_ret
    exact ⟨ret_bool HE.out.symm, below_drewN HB.out _⟩
  · have HE := hid (ent_ref ht HO.out)
    have HM := hid hmx
    have HSM : Hid (SmallM (2 * N) m) := hid ht.small
    obtain ⟨v, hv⟩ : ∃ v, v = mostR m ⟨A, P, B, Q, M⟩ := ⟨_, rfl⟩
    have HV := hid hv
    clear hmx ht hv
    obtain ⟨k0, k1, k2, k3, k4⟩ := AMat.of (x := ⟨A, P, B, Q, M⟩) HX.out
    simp only [Nat.zero_add] at k0 k1 k2 k3 k4
    have hlw := lt_of_heap HX.out
    go_wp2
    go_region_held3 (fun w' => w'.cell? ⟨w.heap.size, 0, none⟩ = some (.int .i64 A) ∧ w'.cell? ⟨w.heap.size, 1, none⟩ = some (.int .i64 P) ∧ w'.cell? ⟨w.heap.size, 2, none⟩ = some (.int .i64 B) ∧ w'.cell? ⟨w.heap.size, 3, none⟩ = some (.int .i64 Q) ∧ w'.cell? ⟨w.heap.size, 4, none⟩ = some (.int .i64 M)) (first | exact ⟨k0, k1, k2, k3, k4⟩ | exact ⟨cell_later hb k0, cell_later hb k1, cell_later hb k2, cell_later hb k3, cell_later hb k4⟩)
      ((go_at_call 61; (with_reducible refine (rmost_any N hN A P B Q M HO.out _ g cg R m _ (HM.out.below (bdrew _)) HSM.out).mono ?_); rw [← HV.out]; rintro e w2 ⟨rfl, hb⟩))
    have HB := hid (HB.out.drew.step hb)
    clear hb k0 k1 k2 k3 k4
    go_wp2
    go_ret
    exact ⟨ret_bool (by rw [HE.out, ← HV.out]), HB.out⟩

set_option maxRecDepth 100000 in
set_option maxHeartbeats 4000000 in
theorem rEnt_any (n : Int) (l : List AM) (A P B Q M : Int) (a : Option Addr) (cap : Nat) (w : World) (hl : Rd w a l) (hlen : l.length ≤ 1000000) :
    Calls Try.prog 33 #[.int .i64 n, .slice a l.length cap, .agg #[.int .i64 A, .int .i64 P, .int .i64 B, .int .i64 Q, .int .i64 M]] w (RetB (.agg #[.bool (entV n l ⟨A, P, B, Q, M⟩), .int .i64 (lineN n l ⟨A, P, B, Q, M⟩)]) w) := by
  have HL := hid hl; clear hl
  have HB := hid (bmore (bnew w (.cells #[.int .i64 A, .int .i64 P, .int .i64 B, .int .i64 Q, .int .i64 M] 24)) (.cells #[.bool false, .int .i64 0] 61))
  have HX : Hid (((w.alloc (.cells #[.int .i64 A, .int .i64 P, .int .i64 B, .int .i64 Q, .int .i64 M] 24)).alloc (.cells #[.bool false, .int .i64 0] 61)).heap[w.heap.size]? = some (.cells #[.int .i64 A, .int .i64 P, .int .i64 B, .int .i64 Q, .int .i64 M] 24 (0, 0))) := hid (by simp only [heap_alloc_if, World.size_alloc] <;> simp)
  have HR : Hid (((w.alloc (.cells #[.int .i64 A, .int .i64 P, .int .i64 B, .int .i64 Q, .int .i64 M] 24)).alloc (.cells #[.bool false, .int .i64 0] 61)).heap[w.heap.size + 1]? = some (.cells #[.bool false, .int .i64 0] 61 (0, 0))) := hid (by simp only [heap_alloc_if, World.size_alloc] <;> simp)
  by_cases h0 : lineN n l ⟨A, P, B, Q, M⟩ = 0
  · obtain ⟨hc0, hr0⟩ := lineN_zero h0
    obtain ⟨⟨hn1, hn2⟩, _, hrs⟩ := checkN_in hc0
    obtain ⟨N, rfl⟩ : ∃ N : Nat, n = (N : Int) := ⟨n.toNat, by omega⟩
    have hN : N ≤ 12 := by omega
    have hN1 : 1 ≤ N := by omega
    have HOK := hid (rights_ok hrs)
    have HO := hid (right_ok hr0)
    have H0 := hid h0
    clear h0 hc0 hr0 hrs
    go_enter Try.func33, Try.ntmps33
    go_wp2_with (first
      | (go_at_call 59; (with_reducible refine (asked_any _ l A P B Q M a cap _ (HL.out.below HB.out) (by omega)).mono ?_); rw [H0.out]; rintro e w1 ⟨rfl, hb⟩; have HB := hid (HB.out.step hb); have HX := hid (keepBox hb HX.out); have HR := hid (keepBox hb HR.out); clear hb; obtain ⟨k0, k1, k2, k3, k4⟩ := AMat.of (x := ⟨A, P, B, Q, M⟩) HX.out; simp only [Nat.zero_add] at k0 k1 k2 k3 k4)
      | (go_at_call 77; (with_reducible refine (rent_any N hN1 hN l A P B Q M a cap _ HOK.out HO.out (HL.out.below HB.out) hlen).mono ?_); rintro e w1 ⟨rfl, hb⟩; have HB := hid (HB.out.step hb); have HR := hid (keepBox hb HR.out); clear hb; obtain ⟨r0, r1, _, _⟩ := box2 HR.out))
    refine bodyPost_ret (v := .agg #[.bool (entB l ⟨A, P, B, Q, M⟩), .int .i64 0]) (by simp [results, Try.results33, go_sem, r0, r1]) rfl ⟨?_, (HB.out.setCell (by simp) _).setCell (by simp) _⟩
    simp [entV, H0.out]
  · have hne : (lineN n l ⟨A, P, B, Q, M⟩ != 0) = true := by simpa using h0
    have H0 := hid h0
    clear h0
    go_enter Try.func33, Try.ntmps33
    go_wp2_with (go_at_call 59; (with_reducible refine (asked_any n l A P B Q M a cap _ (HL.out.below HB.out) (by omega)).mono ?_); rintro e w1 ⟨rfl, hb⟩; have HB := hid (HB.out.step hb); have HX := hid (keepBox hb HX.out); have HR := hid (keepBox hb HR.out); clear hb; obtain ⟨r0, r1, _, _⟩ := box2 HR.out)
    refine bodyPost_ret (v := .agg #[.bool false, .int .i64 (lineN n l ⟨A, P, B, Q, M⟩)]) (by simp [results, Try.results33, go_sem, r0, r1]) rfl ⟨?_, (HB.out.setCell (by simp) _).setCell (by simp) _⟩
    simp [entV, H0.out]

set_option maxRecDepth 100000 in
set_option maxHeartbeats 4000000 in
theorem rposs_any (N : Nat) (hN1 : 1 ≤ N) (hN : N ≤ 12) (l : List AM) (a : Option Addr) (cap : Nat) (w : World) (ok : ∀ a, a ∈ l → Ok N 1000000 a) (hl : Rd w a l) (hlen : l.length ≤ 1000000) :
    Calls Try.prog 81 #[.int .i64 N, .slice a l.length cap] w (RetB (.bool (possB l)) w) := by
  go_enter Try.func81, Try.ntmps81
  go_wp2_with (go_at_call 60; fail)
  refine (tight_any N hN1 hN l ok a cap _ hl hlen).mono ?_
  rintro e w1 ⟨hb, hor⟩
  have HB := hid hb
  clear hb
  rcases hor with ⟨hp, rfl⟩ | ⟨g, cg, R, m, rfl, hmx, ht⟩
  · have HE := hid hp
    clear hp
    go_wp2
    go_ret
    exact ⟨ret_bool HE.out.symm, HB.out⟩
  · have HE := hid ht.poss
    clear hmx ht
    go_wp2
    go_ret
    exact ⟨ret_bool HE.out.symm, HB.out⟩

set_option maxRecDepth 100000 in
set_option maxHeartbeats 4000000 in
theorem rPoss_any (n : Int) (l : List AM) (a : Option Addr) (cap : Nat) (w : World) (hl : Rd w a l) (hlen : l.length ≤ 1000000) :
    Calls Try.prog 36 #[.int .i64 n, .slice a l.length cap] w (RetB (.agg #[.bool (possV n l), .int .i64 (checkN n l)]) w) := by
  have HL := hid hl; clear hl
  have HB := hid (bnew w (.cells #[.bool false, .int .i64 0] 61))
  have HR : Hid ((w.alloc (.cells #[.bool false, .int .i64 0] 61)).heap[w.heap.size]? = some (.cells #[.bool false, .int .i64 0] 61 (0, 0))) := hid (by simp only [heap_alloc_if] <;> simp)
  by_cases h0 : checkN n l = 0
  · obtain ⟨⟨hn1, hn2⟩, _, hrs⟩ := checkN_in h0
    obtain ⟨N, rfl⟩ : ∃ N : Nat, n = (N : Int) := ⟨n.toNat, by omega⟩
    have hN : N ≤ 12 := by omega
    have hN1 : 1 ≤ N := by omega
    have HOK := hid (rights_ok hrs)
    have H0 := hid h0
    clear h0 hrs
    go_enter Try.func36, Try.ntmps36
    go_wp2_with (first
      | (go_at_call 32; (with_reducible refine (rcheck_any _ l a cap _ (HL.out.below HB.out) (by omega)).mono ?_); rw [H0.out]; rintro e w1 ⟨rfl, hb⟩; have HB := hid (HB.out.step hb); have HR := hid (keepBox hb HR.out); clear hb)
      | (go_at_call 81; (with_reducible refine (rposs_any N hN1 hN l a cap _ HOK.out (HL.out.below HB.out) hlen).mono ?_); rintro e w1 ⟨rfl, hb⟩; have HB := hid (HB.out.step hb); have HR := hid (keepBox hb HR.out); clear hb; obtain ⟨r0, r1, _, _⟩ := box2 HR.out))
    refine bodyPost_ret (v := .agg #[.bool (possB l), .int .i64 0]) (by simp [results, Try.results36, go_sem, r0, r1]) rfl ⟨?_, (HB.out.setCell (by simp) _).setCell (by simp) _⟩
    simp [possV, H0.out]
  · have hne : (checkN n l != 0) = true := by simpa using h0
    have H0 := hid h0
    clear h0
    go_enter Try.func36, Try.ntmps36
    go_wp2_with (go_at_call 32; (with_reducible refine (rcheck_any n l a cap _ (HL.out.below HB.out) (by omega)).mono ?_); rintro e w1 ⟨rfl, hb⟩; have HB := hid (HB.out.step hb); have HR := hid (keepBox hb HR.out); clear hb; obtain ⟨r0, r1, _, _⟩ := box2 HR.out)
    refine bodyPost_ret (v := .agg #[.bool false, .int .i64 (checkN n l)]) (by simp [results, Try.results36, go_sem, r0, r1]) rfl ⟨?_, (HB.out.setCell (by simp) _).setCell (by simp) _⟩
    simp [possV, H0.out]
end Go.Proofs.Ytnjbahiaelehkaa
