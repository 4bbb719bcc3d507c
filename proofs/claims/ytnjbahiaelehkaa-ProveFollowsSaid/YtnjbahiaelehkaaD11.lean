/- The reference's CheckProof. Opposite of package prove. -/
import Derived.Test.YtnjbahiaelehkaaD6
import Derived.Test.YtnjbahiaelehkaaB4
import Derived.Test.YtnjbahiaelehkaaA15
namespace Go.Proofs.Ytnjbahiaelehkaa
open Go.RowKit


theorem boxOff {w : World} {b g p : Nat} {o : Obj} {v : Value} (hne : b ≠ g) (h : w.heap[b]? = some o) : (w.setCell ⟨g, p, none⟩ v).heap[b]? = some o := (Below.heap_setCell _ _ _ _ hne).trans h
def listX (N : Nat) (X : Nat → Int) : List Int := (List.range N).map X
theorem listX_len (N : Nat) (X : Nat → Int) : (listX N X).length = N := by simp [listX]
theorem listX_eq {N : Nat} {X Y : Nat → Int} : listX N X = listX N Y ↔ ∀ k, k < N → X k = Y k := by
  unfold listX
  constructor
  · intro h k hk
    have : ((List.range N).map X)[k]? = ((List.range N).map Y)[k]? := by rw [h]
    simpa [hk] using this
  · intro h
    exact List.map_congr_left fun k hk => h k (List.mem_range.1 hk)
theorem IB.rdi {w : World} {g N : Nat} {X : Nat → Int} (h : IB w g N X) : RdI w (some ⟨g, 0, none⟩) (listX N X) := by
  intro i hi
  have hi' : i < N := by rw [listX_len] at hi; exact hi
  refine ⟨g, 0, rfl, h.lt, ?_⟩
  have e : (listX N X)[i] = X i := by simp [listX]
  rw [e, Nat.zero_add]
  exact h.cell hi'
theorem two_places {iA iB k : Nat} {P Q : Int} : (if k = iB then (if iB = iA then P else 0) + Q else if k = iA then P else 0) = (if (k : Int) = (iA : Int) then P else 0) + (if (k : Int) = (iB : Int) then Q else 0) := by
  repeat' split
  all_goals omega
/-- The error of a proof. -/
def prfN (n : Int) (l : List AM) (a : AM) (p : List Stp) : Int := if lineN n l a = 0 then (if prfB n.toNat l a p then 0 else 11) else lineN n l a

set_option maxRecDepth 100000 in
set_option maxHeartbeats 8000000 in
theorem rcheckprf_any (n : Int) (l : List AM) (A P B Q M : Int) (p : List Stp) (a b : Option Addr) (cap cap' : Nat) (w : World) (hl : Rd w a l) (hp : RdS w b p) (hll : l.length ≤ 1000000) (hpl : p.length ≤ 1000000) :
    Calls Try.prog 35 #[.int .i64 n, .slice a l.length cap, .agg #[.int .i64 A, .int .i64 P, .int .i64 B, .int .i64 Q, .int .i64 M], .slice b p.length cap'] w (RetB (.int .i64 (prfN n l ⟨A, P, B, Q, M⟩ p)) w) := by
  have HL := hid hl; clear hl
  have HP := hid hp; clear hp
  obtain ⟨i3, hi3, hz0, hz1, hz2⟩ := info_parts info3
  have HB := hid (bnew w (.cells #[.int .i64 A, .int .i64 P, .int .i64 B, .int .i64 Q, .int .i64 M] 24))
  have HX : Hid ((w.alloc (.cells #[.int .i64 A, .int .i64 P, .int .i64 B, .int .i64 Q, .int .i64 M] 24)).heap[w.heap.size]? = some (.cells #[.int .i64 A, .int .i64 P, .int .i64 B, .int .i64 Q, .int .i64 M] 24 (0, 0))) := hid (by simp only [heap_alloc_if] <;> simp)
  by_cases h0 : lineN n l ⟨A, P, B, Q, M⟩ = 0
  · obtain ⟨hc0, hr0⟩ := lineN_zero h0
    obtain ⟨⟨hn1, hn2⟩, _, hrs⟩ := checkN_in hc0
    obtain ⟨N, rfl⟩ : ∃ N : Nat, n = (N : Int) := ⟨n.toNat, by omega⟩
    have hN : N ≤ 12 := by omega
    have hN1 : 1 ≤ N := by omega
    have HOK := hid (rights_ok hrs)
    have o := right_ok hr0
    have HO := hid o
    have H0 := hid h0
    have oA : 0 ≤ A ∧ A < N := ⟨o.a0, o.an⟩
    have oB : 0 ≤ B ∧ B < N := by
      by_cases hq : Q = 0
      · have : B = 0 := o.b0 hq
        omega
      · exact ⟨(o.b1 hq).1, (o.b1 hq).2.1⟩
    have oP : -1 ≤ P ∧ P ≤ 1 := by have : P = 1 ∨ P = -1 := o.p; omega
    have oQ : -1 ≤ Q ∧ Q ≤ 1 := by have : Q = 0 ∨ Q = 1 ∨ Q = -1 := o.q; omega
    obtain ⟨iA, rfl⟩ : ∃ i : Nat, A = i := ⟨A.toNat, by omega⟩
    obtain ⟨iB, rfl⟩ : ∃ i : Nat, B = i := ⟨B.toNat, by omega⟩
    have hiA : iA < N := by omega
    have hiB : iB < N := by omega
    obtain ⟨oP1, oP2⟩ := oP
    obtain ⟨oQ1, oQ2⟩ := oQ
    clear h0 hc0 hr0 hrs o oA oB
    go_enter Try.func35, Try.ntmps35
    go_upto_region 4 with (go_at_call 59; (with_reducible refine (asked_any _ l _ P _ Q M a cap _ (HL.out.below HB.out) (by omega)).mono ?_); rw [H0.out]; rintro e w1 ⟨rfl, hb⟩; have HB := hid (HB.out.step hb); have HX := hid (keepBox hb HX.out); clear hb)
    go_upto_region 5 with (go_at_call 79; (with_reducible refine (last_any N hN1 hN l HOK.out p a b cap cap' _ (HL.out.below HB.out) (HP.out.below HB.out) hll hpl).mono ?_); rintro e w2 ⟨hb, hor⟩; have HB := hid (HB.out.step hb); have HX := hid (keepBox hb HX.out); clear hb; rcases hor with ⟨s, g, c, hs, hI, rfl⟩ | ⟨hs, rfl⟩)
    · obtain ⟨X, sN⟩ := s
      have HS := hid hs
      have HI := hid (hI.below (bnew w2 (.cells #[.slice (some ⟨g, 0, none⟩) N c, .int .i64 sN] 128)))
      have HB := hid (bmore HB.out (.cells #[.slice (some ⟨g, 0, none⟩) N c, .int .i64 sN] 128))
      have HX := hid (keepBox (bnew w2 (.cells #[.slice (some ⟨g, 0, none⟩) N c, .int .i64 sN] 128)) HX.out)
      have HQ : Hid ((w2.alloc (.cells #[.slice (some ⟨g, 0, none⟩) N c, .int .i64 sN] 128)).heap[w2.heap.size]? = some (.cells #[.slice (some ⟨g, 0, none⟩) N c, .int .i64 sN] 128 (0, 0))) := hid (by simp only [heap_alloc_if] <;> simp)
      have hgq : g ≠ w2.heap.size := by have := hI.lt; omega
      clear hs hI
      obtain ⟨no, hno⟩ : ∃ no, no = noneS N ⟨X, sN⟩ := ⟨_, rfl⟩
      have HNO := hid hno
      clear hno
      generalize w2.alloc (.cells #[.slice (some ⟨g, 0, none⟩) N c, .int .i64 sN] 128) = W2 at *
      generalize w2.heap.size = q2 at *
      obtain ⟨s0, s1, _, _⟩ := box2 HQ.out
      go_upto_region 8 with (go_at_call 80; (with_reducible refine (refutes_any N g X sN c _ HI.out (by omega)).mono ?_); rw [← HNO.out]; rintro e w1 ⟨rfl, hb⟩; have HB := hid (HB.out.step hb); have HX := hid (keepBox hb HX.out); have HQ := hid (keepBox hb HQ.out); have HI := hid (HI.out.below hb); clear hb)
      obtain ⟨k0, k1, k2, k3, k4⟩ := AMat.of (x := ⟨iA, P, iB, Q, M⟩) HX.out
      simp only [Nat.zero_add] at k0 k1 k2 k3 k4
      go_upto_region 9 with (refine wpList_make_row _ rfl _ _ _ rfl 3 i3 _ Try.underlying46 hi3 hz0 hz1 rfl .i64 .i64 N rfl rfl (by rw [hz2]; omega) (by omega) ?_)
      have HW := hid (IB.new w1 N)
      have HB := hid (bmore HB.out (.cells (madeCells #[.int .i64 0] N) 3))
      have hxq := lt_of_heap HX.out
      have hqq := lt_of_heap HQ.out
      have hgg := HI.out.lt
      have HX := hid (keepBox (bnew w1 (.cells (madeCells #[.int .i64 0] N) 3)) HX.out)
      have HQ := hid (keepBox (bnew w1 (.cells (madeCells #[.int .i64 0] N) 3)) HQ.out)
      have HI := hid (HI.out.below (bnew w1 (.cells (madeCells #[.int .i64 0] N) 3)))
      have hq3 : w.heap.size ≤ w1.heap.size := by omega
      generalize w1.alloc (.cells (madeCells #[.int .i64 0] N) 3) = W3 at *
      generalize w1.heap.size = q3 at *
      obtain ⟨k0, k1, k2, k3, k4⟩ := AMat.of (x := ⟨iA, P, iB, Q, M⟩) HX.out
      simp only [Nat.zero_add] at k0 k1 k2 k3 k4
      have hxA := HW.out.cell hiA
      have fxA := HW.out.frozen iA
      go_upto_region 10 with fail
      have HW := hid (HW.out.set (k := iA) P)
      have HB := hid (HB.out.setCell (p := ⟨q3, iA, none⟩) hq3 (.int .i64 P))
      have HX := hid (boxOff (p := iA) (v := .int .i64 P) (by omega : w.heap.size ≠ q3) HX.out)
      have HQ := hid (boxOff (p := iA) (v := .int .i64 P) (by omega : q2 ≠ q3) HQ.out)
      have HI := hid (HI.out.off (b := q3) (k := iA) (u := .int .i64 P) (by omega))
      generalize W3.setCell ⟨q3, iA, none⟩ (.int .i64 P) = W4 at *
      obtain ⟨X1, hX1e⟩ : ∃ X1 : Nat → Int, X1 = fun j => if j = iA then P else 0 := ⟨_, rfl⟩
      have HW : Hid (IB W4 q3 N X1) := hid (by rw [hX1e]; exact HW.out)
      have hx1b : -1 ≤ X1 iB ∧ X1 iB ≤ 1 := by rw [hX1e]; show -1 ≤ (if iB = iA then P else 0) ∧ (if iB = iA then P else 0) ≤ 1; split <;> omega
      have HXE := hid hX1e
      obtain ⟨hx1, hx2⟩ := hx1b
      have hxB := HW.out.cell hiB
      have fxB := HW.out.frozen iB
      obtain ⟨k0, k1, k2, k3, k4⟩ := AMat.of (x := ⟨iA, P, iB, Q, M⟩) HX.out
      simp only [Nat.zero_add] at k0 k1 k2 k3 k4
      clear hX1e hxA fxA
      have hxs : IntKind.i64.wrap (X1 iB + Q) = X1 iB + Q := IntWalk.i64_in _ (by omega)
      go_still_tail 12, (by kernel_rfl)
      clear hxs
      change wpList _ _ _ _ _ W4.drew
      have hxd : W4.drew.cell? ⟨q3, iB, none⟩ = some (.int .i64 (X1 iB)) := hxB
      have fxd : W4.drew.frozen? ⟨q3, iB, none⟩ = false := fxB
      go_upto_region 11 with fail
      have HW := hid ((HW.out.set (k := iB) (X1 iB + Q)).below (bdrew _))
      have HB := hid ((HB.out.setCell (p := ⟨q3, iB, none⟩) hq3 (.int .i64 (X1 iB + Q))).drew)
      have HX := hid (keepBox (bdrew _) (boxOff (p := iB) (v := .int .i64 (X1 iB + Q)) (by omega : w.heap.size ≠ q3) HX.out))
      have HQ := hid (keepBox (bdrew _) (boxOff (p := iB) (v := .int .i64 (X1 iB + Q)) (by omega : q2 ≠ q3) HQ.out))
      have HI := hid ((HI.out.off (b := q3) (k := iB) (u := .int .i64 (X1 iB + Q)) (by omega)).below (bdrew _))
      clear hxB fxB hxd fxd k0 k1 k2 k3 k4
      generalize (W4.setCell ⟨q3, iB, none⟩ (.int .i64 (X1 iB + Q))).drew = W5 at *
      obtain ⟨X2, hX2⟩ : ∃ X2 : Nat → Int, X2 = fun j => if j = iB then X1 iB + Q else X1 j := ⟨_, rfl⟩
      have HW : Hid (IB W5 q3 N X2) := hid (by rw [hX2]; exact HW.out)
      obtain ⟨bs, hbs⟩ : ∃ bs, bs = decide (listX N X2 = listX N X) := ⟨_, rfl⟩
      have P48 : ∀ (W : World) (c1 : Nat), IB W q3 N X2 → IB W g N X → Calls Try.prog 48 #[.slice (some ⟨q3, 0, none⟩) N c1, .slice (some ⟨g, 0, none⟩) N c] W (RetB (.bool bs) W) := fun W c1 h1 h2 => by
        have := same_ints (listX N X2) (listX N X) (some ⟨q3, 0, none⟩) (some ⟨g, 0, none⟩) c1 c W h1.rdi h2.rdi (by rw [listX_len]; omega) (by rw [listX_len]; omega)
        rw [listX_len, listX_len, ← hbs] at this
        exact this
      have hfin : prfB N l ⟨iA, P, iB, Q, M⟩ p = (no || (bs && decide (sN ≤ M))) := by
        unfold prfB
        rw [HS.out, HNO.out]
        show (noneS N ⟨X, sN⟩ || wantS N _ _) = _
        congr 1
        unfold wantS
        congr 1
        rw [hbs, Bool.eq_iff_iff, decide_eq_true_eq, decide_eq_true_eq, listX_eq]
        have key : ∀ k, X2 k = lnX ⟨iA, P, iB, Q, M⟩ k := by
          intro k
          rw [hX2, HXE.out]
          show (if k = iB then (if iB = iA then P else 0) + Q else if k = iA then P else 0) = (if (k : Int) = (iA : Int) then P else 0) + (if (k : Int) = (iB : Int) then Q else 0)
          exact two_places
        exact ⟨fun h k hk => by rw [key k]; exact (h k hk).symm, fun h k hk => by have := h k hk; rw [key k] at this; exact this.symm⟩
      have HF := hid hfin
      have HP48 := hid P48
      obtain ⟨s0, s1, _, _⟩ := box2 HQ.out
      clear hX2 hbs P48 hfin hx1 hx2
      have hend : ∀ r : Bool, (no || (bs && decide (sN ≤ M))) = r → prfN N l ⟨iA, P, iB, Q, M⟩ p = if r = true then 0 else 11 := fun r hr => by
        unfold prfN
        rw [if_pos H0.out, Int.toNat_natCast, HF.out, hr]
      have HEND := hid hend
      clear hend
      by_cases hle : sN ≤ M
      · have d1 : decide (sN ≤ M) = true := by simpa using hle
        have D1 := hid d1
        cases no <;> cases bs
        all_goals
          go_wp2_with (go_at_call 48; (refine (HP48.out _ _ HW.out HI.out).mono ?_); rintro e w1 ⟨rfl, hb⟩; have HB := hid (HB.out.step hb); have HX := hid (keepBox hb HX.out); have HQ := hid (keepBox hb HQ.out); clear hb; obtain ⟨s0, s1, _, _⟩ := box2 HQ.out; obtain ⟨k0, k1, k2, k3, k4⟩ := AMat.of (x := ⟨iA, P, iB, Q, M⟩) HX.out; simp only [Nat.zero_add] at k0 k1 k2 k3 k4)
          go_ret
          exact ⟨ret_int (by rw [HEND.out _ rfl, D1.out]; rfl), HB.out⟩
      · have d1 : decide (sN ≤ M) = false := by simpa using hle
        have D1 := hid d1
        cases no <;> cases bs
        all_goals
          go_wp2_with (go_at_call 48; (refine (HP48.out _ _ HW.out HI.out).mono ?_); rintro e w1 ⟨rfl, hb⟩; have HB := hid (HB.out.step hb); have HX := hid (keepBox hb HX.out); have HQ := hid (keepBox hb HQ.out); clear hb; obtain ⟨s0, s1, _, _⟩ := box2 HQ.out; obtain ⟨k0, k1, k2, k3, k4⟩ := AMat.of (x := ⟨iA, P, iB, Q, M⟩) HX.out; simp only [Nat.zero_add] at k0 k1 k2 k3 k4)
          go_ret
          exact ⟨ret_int (by rw [HEND.out _ rfl, D1.out]; rfl), HB.out⟩
    · have HS := hid hs
      clear hs
      go_wp2
      go_ret
      refine ⟨ret_int ?_, bmore HB.out _⟩
      have : ¬prfB N l ⟨iA, P, iB, Q, M⟩ p = true := by unfold prfB; rw [HS.out]; exact Bool.false_ne_true
      unfold prfN
      rw [if_pos H0.out, Int.toNat_natCast, if_neg this]
  · have hne : (lineN n l ⟨A, P, B, Q, M⟩ != 0) = true := by simpa using h0
    have H0 := hid h0
    clear h0
    go_enter Try.func35, Try.ntmps35
    go_wp2_with (go_at_call 59; (with_reducible refine (asked_any n l A P B Q M a cap _ (HL.out.below HB.out) (by omega)).mono ?_); rintro e w1 ⟨rfl, hb⟩; have HB := hid (HB.out.step hb); have HX := hid (keepBox hb HX.out); clear hb)
    go_ret
    exact ⟨ret_int (by unfold prfN; rw [if_neg H0.out]), HB.out⟩


def opp (a : AM) : AM := ⟨a.A, -a.P, a.B, -a.Q, -a.M - 1⟩
def oppE (n : Int) (a : AM) : Int := if inB n 1 12 = true ∧ rightB n a = true ∧ rightB n (opp a) = true then 0 else 1
def oppL (n : Int) (a : AM) : AM := if oppE n a = 0 then opp a else am0

theorem box5 {W : World} {b : Nat} {x y z u v : Value} {T : TypeId} (h : W.heap[b]? = some (.cells #[x, y, z, u, v] T (0, 0))) :
    (W.cell? ⟨b, 0, none⟩ = some x ∧ W.cell? ⟨b, 1, none⟩ = some y ∧ W.cell? ⟨b, 2, none⟩ = some z ∧ W.cell? ⟨b, 3, none⟩ = some u ∧ W.cell? ⟨b, 4, none⟩ = some v) ∧
    W.frozen? ⟨b, 0, none⟩ = false ∧ W.frozen? ⟨b, 1, none⟩ = false ∧ W.frozen? ⟨b, 2, none⟩ = false ∧ W.frozen? ⟨b, 3, none⟩ = false ∧ W.frozen? ⟨b, 4, none⟩ = false := by
  simp [World.cell?, World.frozen?, h]

set_option maxHeartbeats 1000000 in
theorem opp_any (n A P B Q M : Int) (h : rightB n ⟨A, P, B, Q, M⟩ = true) (w : World) :
    Calls Try.prog 83 #[.agg #[.int .i64 A, .int .i64 P, .int .i64 B, .int .i64 Q, .int .i64 M]] w (RetB (.agg #[.int .i64 A, .int .i64 (-P), .int .i64 B, .int .i64 (-Q), .int .i64 (-M - 1)]) w) := by
  have h' := h
  simp only [rightB, decide_eq_true_eq] at h'
  obtain ⟨_, hp, ⟨hq1, hq2⟩, ⟨hm1, hm2⟩, _⟩ := h'
  have hp1 : -1 ≤ P := by omega
  have hp2 : P ≤ 1 := by omega
  clear hp h
  go_enter Try.func83, Try.ntmps83
  go_wp2
  refine bodyPost_ret (v := .agg #[.int .i64 A, .int .i64 (-P), .int .i64 B, .int .i64 (-Q), .int .i64 (-M - 1)]) (by simp [results, Try.results83, go_sem]) rfl ⟨rfl, ?_⟩
  repeat (refine Below.setCell ?_ (by simp) _)
  exact bmore (bnew _ _) _
set_option maxRecDepth 100000 in
set_option maxHeartbeats 4000000 in
/-- What Opposite returns. -/
theorem oppose_any (n A P B Q M : Int) (w : World) :
    Calls Try.prog 41 #[.int .i64 n, .agg #[.int .i64 A, .int .i64 P, .int .i64 B, .int .i64 Q, .int .i64 M]] w (Ret2 (oppL n ⟨A, P, B, Q, M⟩).val (.int .i64 (oppE n ⟨A, P, B, Q, M⟩)) w) := by
  have HB := hid (bmore (bnew w (.cells #[.int .i64 A, .int .i64 P, .int .i64 B, .int .i64 Q, .int .i64 M] 24)) (.cells #[.int .i64 0, .int .i64 0, .int .i64 0, .int .i64 0, .int .i64 0] 24))
  have HX : Hid (((w.alloc (.cells #[.int .i64 A, .int .i64 P, .int .i64 B, .int .i64 Q, .int .i64 M] 24)).alloc (.cells #[.int .i64 0, .int .i64 0, .int .i64 0, .int .i64 0, .int .i64 0] 24)).heap[w.heap.size]? = some (.cells #[.int .i64 A, .int .i64 P, .int .i64 B, .int .i64 Q, .int .i64 M] 24 (0, 0))) := hid (by simp only [heap_alloc_if, World.size_alloc] <;> simp)
  have HR : Hid (((w.alloc (.cells #[.int .i64 A, .int .i64 P, .int .i64 B, .int .i64 Q, .int .i64 M] 24)).alloc (.cells #[.int .i64 0, .int .i64 0, .int .i64 0, .int .i64 0, .int .i64 0] 24)).heap[w.heap.size + 1]? = some (.cells #[.int .i64 0, .int .i64 0, .int .i64 0, .int .i64 0, .int .i64 0] 24 (0, 0))) := hid (by simp only [heap_alloc_if, World.size_alloc] <;> simp)
  obtain ⟨⟨r0, r1, r2, r3, r4⟩, z0, z1, z2, z3, z4⟩ := box5 HR.out
  obtain ⟨⟨k0, k1, k2, k3, k4⟩, _, _, _, _, _⟩ := box5 HX.out
  by_cases h1 : inB n 1 12 = true
  · have hn : 1 ≤ n ∧ n ≤ 12 := by simpa [inB] using h1
    obtain ⟨hn1, hn2⟩ := hn
    have H1 := hid h1
    by_cases h2 : rightB n ⟨A, P, B, Q, M⟩ = true
    · have H2 := hid h2
      have HT := hid h2
      by_cases h3 : rightB n ⟨A, -P, B, -Q, -M - 1⟩ = true
      · have H3 := hid h3
        clear h1 h2 h3
        go_enter Try.func41, Try.ntmps41
        go_wp2_with (first | (go_at_call 71; (with_reducible refine (within_any _ _ _ _).mono ?_); rw [H1.out]; rintro e w1 ⟨rfl, rfl⟩) | (go_at_call 75; (with_reducible refine (right_any n A P B Q M hn1 hn2 _).mono ?_); rw [H2.out]; rintro e w1 ⟨rfl, hb⟩; have HB := hid (HB.out.step hb); have HX := hid (keepBox hb HX.out); have HR := hid (keepBox hb HR.out); clear hb; obtain ⟨⟨r0, r1, r2, r3, r4⟩, z0, z1, z2, z3, z4⟩ := box5 HR.out; obtain ⟨⟨k0, k1, k2, k3, k4⟩, _, _, _, _, _⟩ := box5 HX.out) | (go_at_call 75; (with_reducible refine (right_any n A (-P) B (-Q) (-M - 1) hn1 hn2 _).mono ?_); rw [H3.out]; rintro e w1 ⟨rfl, hb⟩; have HB := hid (HB.out.step hb); have HX := hid (keepBox hb HX.out); have HR := hid (keepBox hb HR.out); clear hb; obtain ⟨⟨r0, r1, r2, r3, r4⟩, z0, z1, z2, z3, z4⟩ := box5 HR.out; obtain ⟨⟨k0, k1, k2, k3, k4⟩, _, _, _, _, _⟩ := box5 HX.out) | (go_at_call 83; (with_reducible refine (opp_any n A P B Q M HT.out _).mono ?_); rintro e w1 ⟨rfl, hb⟩; have HB := hid (HB.out.step hb); have HX := hid (keepBox hb HX.out); have HR := hid (keepBox hb HR.out); clear hb; obtain ⟨⟨r0, r1, r2, r3, r4⟩, z0, z1, z2, z3, z4⟩ := box5 HR.out; obtain ⟨⟨k0, k1, k2, k3, k4⟩, _, _, _, _, _⟩ := box5 HX.out))
        refine bodyPost_ret (v := .tuple #[.agg #[.int .i64 A, .int .i64 (-P), .int .i64 B, .int .i64 (-Q), .int .i64 (-M - 1)], .int .i64 0]) (by simp [results, Try.results41, go_sem, r0, r1, r2, r3, r4]) rfl ⟨?_, ?_⟩
        · have he : oppE n ⟨A, P, B, Q, M⟩ = 0 := if_pos ⟨H1.out, H2.out, H3.out⟩
          unfold oppL
          rw [he]
          rfl
        · repeat (refine Below.setCell ?_ (by simp) _)
          exact HB.out
      · have h3' : rightB n ⟨A, -P, B, -Q, -M - 1⟩ = false := by simpa using h3
        have H3 := hid h3'
        clear h1 h2 h3 h3'
        go_enter Try.func41, Try.ntmps41
        go_wp2_with (first | (go_at_call 71; (with_reducible refine (within_any _ _ _ _).mono ?_); rw [H1.out]; rintro e w1 ⟨rfl, rfl⟩) | (go_at_call 75; (with_reducible refine (right_any n A P B Q M hn1 hn2 _).mono ?_); rw [H2.out]; rintro e w1 ⟨rfl, hb⟩; have HB := hid (HB.out.step hb); have HX := hid (keepBox hb HX.out); have HR := hid (keepBox hb HR.out); clear hb; obtain ⟨⟨r0, r1, r2, r3, r4⟩, z0, z1, z2, z3, z4⟩ := box5 HR.out; obtain ⟨⟨k0, k1, k2, k3, k4⟩, _, _, _, _, _⟩ := box5 HX.out) | (go_at_call 75; (with_reducible refine (right_any n A (-P) B (-Q) (-M - 1) hn1 hn2 _).mono ?_); rw [H3.out]; rintro e w1 ⟨rfl, hb⟩; have HB := hid (HB.out.step hb); have HX := hid (keepBox hb HX.out); have HR := hid (keepBox hb HR.out); clear hb; obtain ⟨⟨r0, r1, r2, r3, r4⟩, z0, z1, z2, z3, z4⟩ := box5 HR.out; obtain ⟨⟨k0, k1, k2, k3, k4⟩, _, _, _, _, _⟩ := box5 HX.out) | (go_at_call 83; (with_reducible refine (opp_any n A P B Q M HT.out _).mono ?_); rintro e w1 ⟨rfl, hb⟩; have HB := hid (HB.out.step hb); have HX := hid (keepBox hb HX.out); have HR := hid (keepBox hb HR.out); clear hb; obtain ⟨⟨r0, r1, r2, r3, r4⟩, z0, z1, z2, z3, z4⟩ := box5 HR.out; obtain ⟨⟨k0, k1, k2, k3, k4⟩, _, _, _, _, _⟩ := box5 HX.out))
        refine bodyPost_ret (v := .tuple #[.agg #[.int .i64 0, .int .i64 0, .int .i64 0, .int .i64 0, .int .i64 0], .int .i64 1]) (by simp [results, Try.results41, go_sem, r0, r1, r2, r3, r4]) rfl ⟨?_, ?_⟩
        · have he : oppE n ⟨A, P, B, Q, M⟩ = 1 := by unfold oppE; rw [if_neg]; rintro ⟨g1, g2, g3⟩; have g4 := H3.out; rw [show rightB n (opp ⟨A, P, B, Q, M⟩) = rightB n ⟨A, -P, B, -Q, -M - 1⟩ from rfl, g4] at g3; cases g3
          unfold oppL
          rw [he]
          rfl
        · repeat (refine Below.setCell ?_ (by simp) _)
          exact HB.out
    · have h2' : rightB n ⟨A, P, B, Q, M⟩ = false := by simpa using h2
      have H2 := hid h2'
      clear h1 h2 h2'
      go_enter Try.func41, Try.ntmps41
      go_wp2_with (first | (go_at_call 71; (with_reducible refine (within_any _ _ _ _).mono ?_); rw [H1.out]; rintro e w1 ⟨rfl, rfl⟩) | (go_at_call 75; (with_reducible refine (right_any n A P B Q M hn1 hn2 _).mono ?_); rw [H2.out]; rintro e w1 ⟨rfl, hb⟩; have HB := hid (HB.out.step hb); have HX := hid (keepBox hb HX.out); have HR := hid (keepBox hb HR.out); clear hb; obtain ⟨⟨r0, r1, r2, r3, r4⟩, z0, z1, z2, z3, z4⟩ := box5 HR.out; obtain ⟨⟨k0, k1, k2, k3, k4⟩, _, _, _, _, _⟩ := box5 HX.out))
      refine bodyPost_ret (v := .tuple #[.agg #[.int .i64 0, .int .i64 0, .int .i64 0, .int .i64 0, .int .i64 0], .int .i64 1]) (by simp [results, Try.results41, go_sem, r0, r1, r2, r3, r4]) rfl ⟨?_, ?_⟩
      · have he : oppE n ⟨A, P, B, Q, M⟩ = 1 := by unfold oppE; rw [if_neg]; rintro ⟨g1, g2, g3⟩; rw [H2.out] at g2; cases g2
        unfold oppL
        rw [he]
        rfl
      · repeat (refine Below.setCell ?_ (by simp) _)
        exact HB.out
  · have h1' : inB n 1 12 = false := by simpa using h1
    have H1 := hid h1'
    clear h1 h1'
    go_enter Try.func41, Try.ntmps41
    go_wp2_with (go_at_call 71; (with_reducible refine (within_any _ _ _ _).mono ?_); rw [H1.out]; rintro e w1 ⟨rfl, rfl⟩)
    refine bodyPost_ret (v := .tuple #[.agg #[.int .i64 0, .int .i64 0, .int .i64 0, .int .i64 0, .int .i64 0], .int .i64 1]) (by simp [results, Try.results41, go_sem, r0, r1, r2, r3, r4]) rfl ⟨?_, ?_⟩
    · have he : oppE n ⟨A, P, B, Q, M⟩ = 1 := by unfold oppE; rw [if_neg]; rintro ⟨g1, g2, g3⟩; rw [H1.out] at g1; cases g1
      unfold oppL
      rw [he]
      rfl
    · repeat (refine Below.setCell ?_ (by simp) _)
      exact HB.out
end Go.Proofs.Ytnjbahiaelehkaa
