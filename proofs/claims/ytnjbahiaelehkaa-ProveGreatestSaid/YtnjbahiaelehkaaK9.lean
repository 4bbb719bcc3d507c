/- What ProveGreatest compares, plainly. ProveGreatest: the walk. For every input the law ProveGreatest returns true, and each argument reads afterwards as it read before. No condition. -/
import Derived.Test.YtnjbahiaelehkaaL1
import Derived.Test.YtnjbahiaelehkaaD12
import Derived.Test.YtnjbahiaelehkaaD20
import Derived.OpenShut
import Derived.Test.YtnjbahiaelehkaaJ1
namespace Go.Proofs.Ytnjbahiaelehkaa
open Go.RowKit


theorem ent_max {l : List AM} {a : AM} : entB l a = true ↔ (possB l = false ∨ ∃ m, maxO l a = some m ∧ m ≤ a.M) := by
  constructor
  · intro h
    cases hp : possB l with
    | false => exact .inl rfl
    | true =>
      right
      obtain ⟨x, hx⟩ := possB_iff.1 hp
      have he := entB_iff.1 h
      obtain ⟨m, hm⟩ := max_of_bound (l := l) (a := a) (B := a.M) he _ x hx rfl
      refine ⟨m, maxO_some.2 hm, ?_⟩
      obtain ⟨⟨y, hy, e⟩, _⟩ := hm
      have := he y hy
      omega
  · rintro (h | ⟨m, hm, hle⟩)
    · refine entB_iff.2 fun x hx => ?_
      rw [possB_iff.2 ⟨x, hx⟩] at h
      cases h
    · refine entB_iff.2 fun x hx => ?_
      have := (maxO_some.1 hm).2 x hx
      omega
theorem great_one {n : Int} {l : List AM} {a : AM} (h1 : checkN n l = 0) (ha : rightB n a = true) :
    (possV n l = true ↔ mostC n l a ≠ 10) ∧ (entV n l a = true ↔ (possV n l = false ∨ (mostC n l a = 0 ∧ mostV n l a ≤ a.M))) ∧ (mostC n l a = 0 ∨ mostC n l a = 5 ∨ mostC n l a = 10) ∧ (mostC n l a = 0 → possV n l = true ∧ IsMax l a (mostV n l a)) := by
  have h3 := lineN_of h1 ha
  unfold possV entV mostC mostV mostE mostN
  rw [if_pos h1, if_pos h3, if_pos h3, if_pos h3, ent_max]
  cases hp : possB l with
  | false => simp
  | true =>
    cases hm : maxO l a with
    | none => simp
    | some m => simp [maxO_some.1 hm]
theorem great_span {n k : Int} {l : List AM} {x : List Int} (h : fitIs n l x = true) (he : spanE n l k = 0) : ∃ h : k.toNat < x.length, spanLo n l k ≤ x[k.toNat] ∧ x[k.toNat] ≤ spanHi n l k := by
  obtain ⟨hc, hl, _, hs⟩ := fitIs_iff.1 h
  have hi : indexN n l k = 0 := by
    unfold spanE at he
    split at he
    · assumption
    · exact he
  obtain ⟨_, _, _, hk2⟩ := indexN_in hi
  have hkl : k.toNat < x.length := by omega
  refine ⟨hkl, ?_⟩
  have hp : possB l = true := possB_iff.2 ⟨_, hs⟩
  have ef : fn x k.toNat = x[k.toNat] := by simp [fn, hkl]
  rw [← ef]
  unfold spanE at he
  rw [if_pos hi, if_pos hp] at he
  unfold spanLo spanHi
  rw [if_pos ⟨hi, hp⟩, if_pos ⟨hi, hp⟩]
  cases e1 : spanM l k (-1) with
  | none => rw [e1] at he; cases he
  | some p =>
    cases e2 : spanM l k 1 with
    | none => rw [e1, e2] at he; cases he
    | some q =>
      have i1 := (maxO_some.1 e1).2 _ hs
      have i2 := (maxO_some.1 e2).2 _ hs
      simp only [lhs] at i1 i2
      show -p ≤ fn x k.toNat ∧ fn x k.toNat ≤ q
      omega
theorem right_more {n m : Int} {a : AM} (ha : rightB n a = true) (hm : -1000000 ≤ m ∧ m < 1000000) : rightB n ⟨a.A, a.P, a.B, a.Q, m⟩ = true ∧ rightB n ⟨a.A, -a.P, a.B, -a.Q, -m⟩ = true := by
  simp only [rightB, decide_eq_true_eq] at *
  obtain ⟨h1, h2, h3, h4, h5⟩ := ha
  refine ⟨⟨h1, h2, h3, by omega, h5⟩, ⟨h1, by omega, by omega, by omega, ?_⟩⟩
  by_cases hq : a.Q = 0
  · rw [if_pos (by omega)]
    rw [if_pos hq] at h5
    exact h5
  · rw [if_neg (by omega)]
    rw [if_neg hq] at h5
    exact h5
theorem lhs_most (x : Nat → Int) (a : AM) (m : Int) : lhs x ⟨a.A, a.P, a.B, a.Q, m⟩ = lhs x a := rfl
theorem lhs_neg (x : Nat → Int) (a : AM) (m : Int) : lhs x ⟨a.A, -a.P, a.B, -a.Q, m⟩ = -(lhs x a) := by
  unfold lhs
  show -a.P * x a.A.toNat + -a.Q * x a.B.toNat = -(a.P * x a.A.toNat + a.Q * x a.B.toNat)
  rw [Int.neg_mul, Int.neg_mul]
  omega
theorem great_two {n m : Int} {l : List AM} {a : AM} (h1 : checkN n l = 0) (hl : l.length ≤ 38) (ha : rightB n a = true) (hM : IsMax l a m) (hm : -1000000 ≤ m ∧ m < 1000000) (ho : oppE n ⟨a.A, a.P, a.B, a.Q, m⟩ = 0) :
    checkN n (l ++ [opp ⟨a.A, a.P, a.B, a.Q, m⟩]) = 0 ∧ possV n (l ++ [opp ⟨a.A, a.P, a.B, a.Q, m⟩]) = false ∧
    checkN n (l ++ [(⟨a.A, a.P, a.B, a.Q, m⟩ : AM)] ++ [(⟨a.A, -a.P, a.B, -a.Q, -m⟩ : AM)]) = 0 ∧ possV n (l ++ [(⟨a.A, a.P, a.B, a.Q, m⟩ : AM)] ++ [(⟨a.A, -a.P, a.B, -a.Q, -m⟩ : AM)]) = true := by
  obtain ⟨r1, r2⟩ := right_more ha hm
  have hro : rightB n (opp ⟨a.A, a.P, a.B, a.Q, m⟩) = true := by
    unfold oppE at ho
    split at ho
    · rename_i h
      exact h.2.2
    · cases ho
  have c1 := check_more h1 (by omega) hro
  have c2 := check_more (check_more h1 (by omega) r1) (by rw [List.length_append, List.length_singleton]; omega) r2
  refine ⟨c1, ?_, c2, ?_⟩
  · unfold possV
    rw [if_pos c1, ← Bool.not_eq_true, possB_iff]
    rintro ⟨x, hx⟩
    obtain ⟨s1, s2⟩ := sat_more.1 hx
    have := hM.2 x s1
    unfold opp at s2
    rw [lhs_neg x ⟨a.A, a.P, a.B, a.Q, m⟩, lhs_most] at s2
    simp only at s2
    omega
  · unfold possV
    rw [if_pos c2, possB_iff]
    obtain ⟨⟨x, hx, e⟩, _⟩ := hM
    refine ⟨x, sat_more.2 ⟨sat_more.2 ⟨hx, ?_⟩, ?_⟩⟩
    · rw [lhs_most]
      show lhs x a ≤ m
      omega
    · rw [lhs_neg x a]
      show -(lhs x a) ≤ -m
      omega
theorem rights_single {n : Int} {a : AM} (h : checkN n [a] = 0) : rightB n a = true := by
  obtain ⟨_, _, hr⟩ := checkN_in h
  unfold rightsB at hr
  simpa using hr
theorem great_fit {n m : Int} {l : List AM} {a : AM} {x : List Int} (ha : rightB n a = true) (hM : IsMax l a m) (hm : -1000000 ≤ m ∧ m < 1000000) (h : fitIs n l x = true) : fitIs n [(⟨a.A, a.P, a.B, a.Q, m⟩ : AM)] x = true := by
  obtain ⟨hc, hl, hall, hs⟩ := fitIs_iff.1 h
  obtain ⟨hn, _, _⟩ := checkN_in hc
  refine fitIs_iff.2 ⟨?_, hl, hall, ?_⟩
  · unfold checkN
    rw [if_pos (by simp [inB]; omega), if_neg (by simp), if_pos]
    simp [rightsB, (right_more ha hm).1]
  · intro b hb
    rw [List.mem_singleton.1 hb, lhs_most]
    exact hM.2 _ hs


set_option maxRecDepth 100000 in
set_option maxHeartbeats 16000000 in
theorem greatest_5 (n : Int) (l : List AM) (A P B Q M : Int) (x : List Int) (a : Option Addr) (cap : Nat) (b : Option Addr) (cb : Nat) (w : World) (hl : Rd w a l) (hlen : l.length ≤ 9223372036854775807) (hx : RdI w b x) (hxl : x.length ≤ 9223372036854775807) (h1 : lawRight n l = true) (h2 : ¬38 < l.length) (h4 : ¬20 < x.length) (h3 : lawRight n [⟨A, P, B, Q, M⟩] = true) (hcc : mostC n l ⟨A, P, B, Q, M⟩ = 5) (hmr : mostV n l ⟨A, P, B, Q, M⟩ = mostV n l ⟨A, P, B, Q, M⟩) :
    Calls Try.prog 10 #[.int .i64 n, .slice a l.length cap, .agg #[.int .i64 A, .int .i64 P, .int .i64 B, .int .i64 Q, .int .i64 M], .slice b x.length cb] w (RetB (.bool true) w) := by
  have HL := hid hl; clear hl
  have HN := hid hx; clear hx
  have HB := hid (bnew w (.cells #[.int .i64 A, .int .i64 P, .int .i64 B, .int .i64 Q, .int .i64 M] 24))
  have HX : Hid ((w.alloc (.cells #[.int .i64 A, .int .i64 P, .int .i64 B, .int .i64 Q, .int .i64 M] 24)).heap[w.heap.size]? = some (.cells #[.int .i64 A, .int .i64 P, .int .i64 B, .int .i64 Q, .int .i64 M] 24 (0, 0))) := hid (by simp only [heap_alloc_if] <;> simp)
  obtain ⟨k0, k1, k2, k3, k4⟩ := AMat.of (x := ⟨A, P, B, Q, M⟩) HX.out
  simp only [Nat.zero_add] at k0 k1 k2 k3 k4
  have dl : decide (38 < (l.length : Int)) = false := by simp; omega
  have dx : decide (20 < (x.length : Int)) = false := by simp; omega
  have H1 := hid h1
  have H3 := hid h3
  obtain ⟨_, hck⟩ := lawRight_one h1
  have hra := rights_single (lawRight_one h3).2
  have hA : 0 ≤ A ∧ A ≤ n - 1 := by
    have := hra
    simp only [rightB, decide_eq_true_eq] at this
    exact this.1
  obtain ⟨⟨hn1, hn2⟩, _, _⟩ := checkN_in hck
  obtain ⟨N, rfl⟩ : ∃ N : Nat, n = (N : Int) := ⟨n.toNat, by omega⟩
  obtain ⟨K, rfl⟩ : ∃ K : Nat, A = (K : Int) := ⟨A.toNat, by omega⟩
  have hln := lineN_of hck hra
  obtain ⟨hg1, hg2, hg3, hg4⟩ := great_one hck hra
  have hsp := fun h1 h2 => great_span (n := N) (k := K) (l := l) (x := x) h1 h2
  obtain ⟨e0, he0⟩ : ∃ q, q = entV N l ⟨K, P, B, Q, M⟩ := ⟨_, rfl⟩
  obtain ⟨p0, hp0⟩ : ∃ q, q = possV N l := ⟨_, rfl⟩
  obtain ⟨m, hm⟩ : ∃ q, q = mostV N l ⟨K, P, B, Q, M⟩ := ⟨_, rfl⟩
  obtain ⟨F, hF⟩ : ∃ q, q = fitIs N l x := ⟨_, rfl⟩
  obtain ⟨lo, hlo⟩ : ∃ q, q = spanLo N l K := ⟨_, rfl⟩
  obtain ⟨hi, hhi⟩ : ∃ q, q = spanHi N l K := ⟨_, rfl⟩
  obtain ⟨se, hse⟩ : ∃ q, q = spanE N l K := ⟨_, rfl⟩
  rw [← hp0, hcc] at hg1
  rw [← he0, ← hp0, hcc, ← hm] at hg2
  rw [hcc, ← hp0, ← hm] at hg4
  rw [← hF, ← hlo, ← hhi, ← hse, Int.toNat_natCast] at hsp
  clear hg3 hmr
  have hp := hg1.2 (by decide)
  have he : e0 = false := by
    rw [hp] at hg2
    cases e0 with
    | false => rfl
    | true => simp at hg2
  subst hp he
  have HV := hid (And.intro he0 (And.intro hp0 (And.intro hm (And.intro hcc (And.intro hF (And.intro hlo (And.intro hhi hse)))))))
  have HC := hid (And.intro hck (And.intro hra hln))
  have HG4 := hid hg4
  have HSP := hid hsp
  clear h1 h3 hck hra hln hg1 hg2 hg4 hsp he0 hp0 hm hcc hF hlo hhi hse
  go_enter Try.func10, Try.ntmps10
  go_upto_region 3 with (first
    | (go_at_call 22; (with_reducible refine (lawright_any N l a cap _ (HL.out.below HB.out) hlen).mono ?_); rw [H1.out]; rintro e w1 ⟨rfl, hb⟩; have HB := hid (HB.out.step hb); have HX := hid (keepBox hb HX.out); obtain ⟨k0, k1, k2, k3, k4⟩ := AMat.of (x := ⟨K, P, B, Q, M⟩) HX.out; simp only [Nat.zero_add] at k0 k1 k2 k3 k4; clear hb)
    | (go_at_call 22; refine (lawright_any N [⟨K, P, B, Q, M⟩] _ _ _ (Rd.new _ [⟨K, P, B, Q, M⟩] (by simp)) (by simp)).mono ?_; rw [H3.out]; rintro e w1 ⟨rfl, hb⟩; have hb := (bnew _ _).step hb; have HB := hid (HB.out.step hb); have HX := hid (keepBox hb HX.out); obtain ⟨k0, k1, k2, k3, k4⟩ := AMat.of (x := ⟨K, P, B, Q, M⟩) HX.out; simp only [Nat.zero_add] at k0 k1 k2 k3 k4; clear hb))
  go_upto_region 4 with (go_at_call 25; (with_reducible refine (entails_any N l K P B Q M a cap _ (HL.out.below HB.out) (by omega)).mono ?_); rw [← HV.out.1, HC.out.2.2]; rintro e w1 ⟨rfl, hb⟩; have HB := hid (HB.out.step hb); have HX := hid (keepBox hb HX.out); obtain ⟨k0, k1, k2, k3, k4⟩ := AMat.of (x := ⟨K, P, B, Q, M⟩) HX.out; simp only [Nat.zero_add] at k0 k1 k2 k3 k4; clear hb)
  go_upto_region 5 with (go_at_call 24; (with_reducible refine (possible_any N l a cap _ (HL.out.below HB.out) (by omega)).mono ?_); rw [← HV.out.2.1, HC.out.1]; rintro e w1 ⟨rfl, hb⟩; have HB := hid (HB.out.step hb); have HX := hid (keepBox hb HX.out); obtain ⟨k0, k1, k2, k3, k4⟩ := AMat.of (x := ⟨K, P, B, Q, M⟩) HX.out; simp only [Nat.zero_add] at k0 k1 k2 k3 k4; clear hb)
  go_upto_region 6 with (go_at_call 18; (with_reducible refine (most_any N l K P B Q M a cap _ (HL.out.below HB.out) (by omega)).mono ?_); rw [← HV.out.2.2.1, HV.out.2.2.2.1]; rintro e w1 ⟨rfl, hb⟩; have HB := hid (HB.out.step hb); have HX := hid (keepBox hb HX.out); obtain ⟨k0, k1, k2, k3, k4⟩ := AMat.of (x := ⟨K, P, B, Q, M⟩) HX.out; simp only [Nat.zero_add] at k0 k1 k2 k3 k4; clear hb)
  go_upto_region 9 with (go_at_call 20; (with_reducible refine (span_any N l K a cap _ (HL.out.below HB.out) (by omega)).mono ?_); rw [← HV.out.2.2.2.2.2.1, ← HV.out.2.2.2.2.2.2.1, ← HV.out.2.2.2.2.2.2.2]; rintro e w1 ⟨rfl, hb⟩; have HB := hid (HB.out.step hb); have HX := hid (keepBox hb HX.out); obtain ⟨k0, k1, k2, k3, k4⟩ := AMat.of (x := ⟨K, P, B, Q, M⟩) HX.out; simp only [Nat.zero_add] at k0 k1 k2 k3 k4; clear hb)
  generalize hW9 : w1 = W9 at *
  clear hW9
  go_cut [142] (fun s wx => s = .bool false ∧ Below W9.heap.size W9 wx)
  case first =>
    cases F with
    | false =>
      go_wp2_with (go_at_call 40; (with_reducible refine (lawfits_any N l x a cap b cb _ (HL.out.below HB.out) hlen (HN.out.below HB.out) hxl).mono ?_); rw [← HV.out.2.2.2.2.1]; rintro e w9 ⟨rfl, hb⟩; have HD := hid hb; obtain ⟨k0, k1, k2, k3, k4⟩ := AMat.of (x := ⟨K, P, B, Q, M⟩) (keepBox hb HX.out); simp only [Nat.zero_add] at k0 k1 k2 k3 k4; clear hb)
      go_meet
      exact ⟨rfl, HD.out⟩
    | true =>
      by_cases hz : se = 0
      · have hz' : (se == 0) = true := by simpa using hz
        obtain ⟨hkx, hs1, hs2⟩ := HSP.out rfl hz
        clear hz
        obtain ⟨b7, o7, hbe, _, _⟩ := (HN.out.below HB.out) K hkx
        subst hbe
        obtain ⟨xk, hxk⟩ : ∃ q, q = x[K] := ⟨_, rfl⟩
        rw [← hxk] at hs1 hs2
        have HXK := hid hxk
        have d1 : decide (xk < lo) = false := by simp; omega
        have d2 : decide (hi < xk) = false := by simp; omega
        have hk0 : (0 : Int) ≤ K := by omega
        have hk1 : (K : Int) < (x.length : Int) := by omega
        clear hs1 hs2 hxk
        go_wp2_with (go_at_call 40; (with_reducible refine (lawfits_any N l x a cap (some ⟨b7, o7, none⟩) cb _ (HL.out.below HB.out) hlen (HN.out.below HB.out) hxl).mono ?_); rw [← HV.out.2.2.2.2.1]; rintro e w9 ⟨rfl, hb⟩; have HD := hid hb; obtain ⟨k0, k1, k2, k3, k4⟩ := AMat.of (x := ⟨K, P, B, Q, M⟩) (keepBox hb HX.out); simp only [Nat.zero_add] at k0 k1 k2 k3 k4; clear hb; obtain ⟨_, _, hbe, _, hcell⟩ := (HN.out.below (HB.out.step HD.out)) K hkx; cases hbe; rw [← HXK.out] at hcell)
        go_meet
        exact ⟨rfl, HD.out⟩
      · have hz' : (se == 0) = false := by simpa using hz
        clear hz
        go_wp2_with (go_at_call 40; (with_reducible refine (lawfits_any N l x a cap b cb _ (HL.out.below HB.out) hlen (HN.out.below HB.out) hxl).mono ?_); rw [← HV.out.2.2.2.2.1]; rintro e w9 ⟨rfl, hb⟩; have HD := hid hb; obtain ⟨k0, k1, k2, k3, k4⟩ := AMat.of (x := ⟨K, P, B, Q, M⟩) (keepBox hb HX.out); simp only [Nat.zero_add] at k0 k1 k2 k3 k4; clear hb)
        go_meet
        exact ⟨rfl, HD.out⟩
  case rest =>
    obtain ⟨rfl, hb⟩ := hcut
    have HB := hid (HB.out.step hb); have HX := hid (keepBox hb HX.out); obtain ⟨k0, k1, k2, k3, k4⟩ := AMat.of (x := ⟨K, P, B, Q, M⟩) HX.out; simp only [Nat.zero_add] at k0 k1 k2 k3 k4; clear hb
    go_wp2_with (go_at_call 17; refine (sanity_any _).mono ?_; rintro e w1 ⟨rfl, hb⟩; have HB := hid (HB.out.step hb); have HX := hid (keepBox hb HX.out); obtain ⟨k0, k1, k2, k3, k4⟩ := AMat.of (x := ⟨K, P, B, Q, M⟩) HX.out; simp only [Nat.zero_add] at k0 k1 k2 k3 k4; clear hb)
    go_ret
    exact ⟨rfl, HB.out⟩

set_option maxRecDepth 100000 in
set_option maxHeartbeats 16000000 in
theorem greatest_10 (n : Int) (l : List AM) (A P B Q M : Int) (x : List Int) (a : Option Addr) (cap : Nat) (b : Option Addr) (cb : Nat) (w : World) (hl : Rd w a l) (hlen : l.length ≤ 9223372036854775807) (hx : RdI w b x) (hxl : x.length ≤ 9223372036854775807) (h1 : lawRight n l = true) (h2 : ¬38 < l.length) (h4 : ¬20 < x.length) (h3 : lawRight n [⟨A, P, B, Q, M⟩] = true) (hcc : mostC n l ⟨A, P, B, Q, M⟩ = 10) (hmr : mostV n l ⟨A, P, B, Q, M⟩ = mostV n l ⟨A, P, B, Q, M⟩) :
    Calls Try.prog 10 #[.int .i64 n, .slice a l.length cap, .agg #[.int .i64 A, .int .i64 P, .int .i64 B, .int .i64 Q, .int .i64 M], .slice b x.length cb] w (RetB (.bool true) w) := by
  have HL := hid hl; clear hl
  have HN := hid hx; clear hx
  have HB := hid (bnew w (.cells #[.int .i64 A, .int .i64 P, .int .i64 B, .int .i64 Q, .int .i64 M] 24))
  have HX : Hid ((w.alloc (.cells #[.int .i64 A, .int .i64 P, .int .i64 B, .int .i64 Q, .int .i64 M] 24)).heap[w.heap.size]? = some (.cells #[.int .i64 A, .int .i64 P, .int .i64 B, .int .i64 Q, .int .i64 M] 24 (0, 0))) := hid (by simp only [heap_alloc_if] <;> simp)
  obtain ⟨k0, k1, k2, k3, k4⟩ := AMat.of (x := ⟨A, P, B, Q, M⟩) HX.out
  simp only [Nat.zero_add] at k0 k1 k2 k3 k4
  have dl : decide (38 < (l.length : Int)) = false := by simp; omega
  have dx : decide (20 < (x.length : Int)) = false := by simp; omega
  have H1 := hid h1
  have H3 := hid h3
  obtain ⟨_, hck⟩ := lawRight_one h1
  have hra := rights_single (lawRight_one h3).2
  have hA : 0 ≤ A ∧ A ≤ n - 1 := by
    have := hra
    simp only [rightB, decide_eq_true_eq] at this
    exact this.1
  obtain ⟨⟨hn1, hn2⟩, _, _⟩ := checkN_in hck
  obtain ⟨N, rfl⟩ : ∃ N : Nat, n = (N : Int) := ⟨n.toNat, by omega⟩
  obtain ⟨K, rfl⟩ : ∃ K : Nat, A = (K : Int) := ⟨A.toNat, by omega⟩
  have hln := lineN_of hck hra
  obtain ⟨hg1, hg2, hg3, hg4⟩ := great_one hck hra
  have hsp := fun h1 h2 => great_span (n := N) (k := K) (l := l) (x := x) h1 h2
  obtain ⟨e0, he0⟩ : ∃ q, q = entV N l ⟨K, P, B, Q, M⟩ := ⟨_, rfl⟩
  obtain ⟨p0, hp0⟩ : ∃ q, q = possV N l := ⟨_, rfl⟩
  obtain ⟨m, hm⟩ : ∃ q, q = mostV N l ⟨K, P, B, Q, M⟩ := ⟨_, rfl⟩
  obtain ⟨F, hF⟩ : ∃ q, q = fitIs N l x := ⟨_, rfl⟩
  obtain ⟨lo, hlo⟩ : ∃ q, q = spanLo N l K := ⟨_, rfl⟩
  obtain ⟨hi, hhi⟩ : ∃ q, q = spanHi N l K := ⟨_, rfl⟩
  obtain ⟨se, hse⟩ : ∃ q, q = spanE N l K := ⟨_, rfl⟩
  rw [← hp0, hcc] at hg1
  rw [← he0, ← hp0, hcc, ← hm] at hg2
  rw [hcc, ← hp0, ← hm] at hg4
  rw [← hF, ← hlo, ← hhi, ← hse, Int.toNat_natCast] at hsp
  clear hg3 hmr
  have hp : p0 = false := by
    cases p0 with
    | false => rfl
    | true => simp at hg1
  have he : e0 = true := by
    rw [hp] at hg2
    exact hg2.2 (.inl rfl)
  subst hp he
  have HV := hid (And.intro he0 (And.intro hp0 (And.intro hm (And.intro hcc (And.intro hF (And.intro hlo (And.intro hhi hse)))))))
  have HC := hid (And.intro hck (And.intro hra hln))
  have HG4 := hid hg4
  have HSP := hid hsp
  clear h1 h3 hck hra hln hg1 hg2 hg4 hsp he0 hp0 hm hcc hF hlo hhi hse
  go_enter Try.func10, Try.ntmps10
  go_upto_region 3 with (first
    | (go_at_call 22; (with_reducible refine (lawright_any N l a cap _ (HL.out.below HB.out) hlen).mono ?_); rw [H1.out]; rintro e w1 ⟨rfl, hb⟩; have HB := hid (HB.out.step hb); have HX := hid (keepBox hb HX.out); obtain ⟨k0, k1, k2, k3, k4⟩ := AMat.of (x := ⟨K, P, B, Q, M⟩) HX.out; simp only [Nat.zero_add] at k0 k1 k2 k3 k4; clear hb)
    | (go_at_call 22; refine (lawright_any N [⟨K, P, B, Q, M⟩] _ _ _ (Rd.new _ [⟨K, P, B, Q, M⟩] (by simp)) (by simp)).mono ?_; rw [H3.out]; rintro e w1 ⟨rfl, hb⟩; have hb := (bnew _ _).step hb; have HB := hid (HB.out.step hb); have HX := hid (keepBox hb HX.out); obtain ⟨k0, k1, k2, k3, k4⟩ := AMat.of (x := ⟨K, P, B, Q, M⟩) HX.out; simp only [Nat.zero_add] at k0 k1 k2 k3 k4; clear hb))
  go_upto_region 4 with (go_at_call 25; (with_reducible refine (entails_any N l K P B Q M a cap _ (HL.out.below HB.out) (by omega)).mono ?_); rw [← HV.out.1, HC.out.2.2]; rintro e w1 ⟨rfl, hb⟩; have HB := hid (HB.out.step hb); have HX := hid (keepBox hb HX.out); obtain ⟨k0, k1, k2, k3, k4⟩ := AMat.of (x := ⟨K, P, B, Q, M⟩) HX.out; simp only [Nat.zero_add] at k0 k1 k2 k3 k4; clear hb)
  go_upto_region 5 with (go_at_call 24; (with_reducible refine (possible_any N l a cap _ (HL.out.below HB.out) (by omega)).mono ?_); rw [← HV.out.2.1, HC.out.1]; rintro e w1 ⟨rfl, hb⟩; have HB := hid (HB.out.step hb); have HX := hid (keepBox hb HX.out); obtain ⟨k0, k1, k2, k3, k4⟩ := AMat.of (x := ⟨K, P, B, Q, M⟩) HX.out; simp only [Nat.zero_add] at k0 k1 k2 k3 k4; clear hb)
  go_upto_region 6 with (go_at_call 18; (with_reducible refine (most_any N l K P B Q M a cap _ (HL.out.below HB.out) (by omega)).mono ?_); rw [← HV.out.2.2.1, HV.out.2.2.2.1]; rintro e w1 ⟨rfl, hb⟩; have HB := hid (HB.out.step hb); have HX := hid (keepBox hb HX.out); obtain ⟨k0, k1, k2, k3, k4⟩ := AMat.of (x := ⟨K, P, B, Q, M⟩) HX.out; simp only [Nat.zero_add] at k0 k1 k2 k3 k4; clear hb)
  go_upto_region 9 with (go_at_call 20; (with_reducible refine (span_any N l K a cap _ (HL.out.below HB.out) (by omega)).mono ?_); rw [← HV.out.2.2.2.2.2.1, ← HV.out.2.2.2.2.2.2.1, ← HV.out.2.2.2.2.2.2.2]; rintro e w1 ⟨rfl, hb⟩; have HB := hid (HB.out.step hb); have HX := hid (keepBox hb HX.out); obtain ⟨k0, k1, k2, k3, k4⟩ := AMat.of (x := ⟨K, P, B, Q, M⟩) HX.out; simp only [Nat.zero_add] at k0 k1 k2 k3 k4; clear hb)
  generalize hW9 : w1 = W9 at *
  clear hW9
  go_cut [142] (fun s wx => s = .bool false ∧ Below W9.heap.size W9 wx)
  case first =>
    cases F with
    | false =>
      go_wp2_with (go_at_call 40; (with_reducible refine (lawfits_any N l x a cap b cb _ (HL.out.below HB.out) hlen (HN.out.below HB.out) hxl).mono ?_); rw [← HV.out.2.2.2.2.1]; rintro e w9 ⟨rfl, hb⟩; have HD := hid hb; obtain ⟨k0, k1, k2, k3, k4⟩ := AMat.of (x := ⟨K, P, B, Q, M⟩) (keepBox hb HX.out); simp only [Nat.zero_add] at k0 k1 k2 k3 k4; clear hb)
      go_meet
      exact ⟨rfl, HD.out⟩
    | true =>
      by_cases hz : se = 0
      · have hz' : (se == 0) = true := by simpa using hz
        obtain ⟨hkx, hs1, hs2⟩ := HSP.out rfl hz
        clear hz
        obtain ⟨b7, o7, hbe, _, _⟩ := (HN.out.below HB.out) K hkx
        subst hbe
        obtain ⟨xk, hxk⟩ : ∃ q, q = x[K] := ⟨_, rfl⟩
        rw [← hxk] at hs1 hs2
        have HXK := hid hxk
        have d1 : decide (xk < lo) = false := by simp; omega
        have d2 : decide (hi < xk) = false := by simp; omega
        have hk0 : (0 : Int) ≤ K := by omega
        have hk1 : (K : Int) < (x.length : Int) := by omega
        clear hs1 hs2 hxk
        go_wp2_with (go_at_call 40; (with_reducible refine (lawfits_any N l x a cap (some ⟨b7, o7, none⟩) cb _ (HL.out.below HB.out) hlen (HN.out.below HB.out) hxl).mono ?_); rw [← HV.out.2.2.2.2.1]; rintro e w9 ⟨rfl, hb⟩; have HD := hid hb; obtain ⟨k0, k1, k2, k3, k4⟩ := AMat.of (x := ⟨K, P, B, Q, M⟩) (keepBox hb HX.out); simp only [Nat.zero_add] at k0 k1 k2 k3 k4; clear hb; obtain ⟨_, _, hbe, _, hcell⟩ := (HN.out.below (HB.out.step HD.out)) K hkx; cases hbe; rw [← HXK.out] at hcell)
        go_meet
        exact ⟨rfl, HD.out⟩
      · have hz' : (se == 0) = false := by simpa using hz
        clear hz
        go_wp2_with (go_at_call 40; (with_reducible refine (lawfits_any N l x a cap b cb _ (HL.out.below HB.out) hlen (HN.out.below HB.out) hxl).mono ?_); rw [← HV.out.2.2.2.2.1]; rintro e w9 ⟨rfl, hb⟩; have HD := hid hb; obtain ⟨k0, k1, k2, k3, k4⟩ := AMat.of (x := ⟨K, P, B, Q, M⟩) (keepBox hb HX.out); simp only [Nat.zero_add] at k0 k1 k2 k3 k4; clear hb)
        go_meet
        exact ⟨rfl, HD.out⟩
  case rest =>
    obtain ⟨rfl, hb⟩ := hcut
    have HB := hid (HB.out.step hb); have HX := hid (keepBox hb HX.out); obtain ⟨k0, k1, k2, k3, k4⟩ := AMat.of (x := ⟨K, P, B, Q, M⟩) HX.out; simp only [Nat.zero_add] at k0 k1 k2 k3 k4; clear hb
    go_wp2_with (go_at_call 17; refine (sanity_any _).mono ?_; rintro e w1 ⟨rfl, hb⟩; have HB := hid (HB.out.step hb); have HX := hid (keepBox hb HX.out); obtain ⟨k0, k1, k2, k3, k4⟩ := AMat.of (x := ⟨K, P, B, Q, M⟩) HX.out; simp only [Nat.zero_add] at k0 k1 k2 k3 k4; clear hb)
    go_ret
    exact ⟨rfl, HB.out⟩

set_option maxRecDepth 100000 in
set_option maxHeartbeats 16000000 in
theorem greatest_zlo (n : Int) (l : List AM) (A P B Q M : Int) (x : List Int) (a : Option Addr) (cap : Nat) (b : Option Addr) (cb : Nat) (w : World) (hl : Rd w a l) (hlen : l.length ≤ 9223372036854775807) (hx : RdI w b x) (hxl : x.length ≤ 9223372036854775807) (h1 : lawRight n l = true) (h2 : ¬38 < l.length) (h4 : ¬20 < x.length) (h3 : lawRight n [⟨A, P, B, Q, M⟩] = true) (hcc : mostC n l ⟨A, P, B, Q, M⟩ = 0) (hmr : mostV n l ⟨A, P, B, Q, M⟩ < -1000000) :
    Calls Try.prog 10 #[.int .i64 n, .slice a l.length cap, .agg #[.int .i64 A, .int .i64 P, .int .i64 B, .int .i64 Q, .int .i64 M], .slice b x.length cb] w (RetB (.bool true) w) := by
  have HL := hid hl; clear hl
  have HN := hid hx; clear hx
  have HB := hid (bnew w (.cells #[.int .i64 A, .int .i64 P, .int .i64 B, .int .i64 Q, .int .i64 M] 24))
  have HX : Hid ((w.alloc (.cells #[.int .i64 A, .int .i64 P, .int .i64 B, .int .i64 Q, .int .i64 M] 24)).heap[w.heap.size]? = some (.cells #[.int .i64 A, .int .i64 P, .int .i64 B, .int .i64 Q, .int .i64 M] 24 (0, 0))) := hid (by simp only [heap_alloc_if] <;> simp)
  obtain ⟨k0, k1, k2, k3, k4⟩ := AMat.of (x := ⟨A, P, B, Q, M⟩) HX.out
  simp only [Nat.zero_add] at k0 k1 k2 k3 k4
  have dl : decide (38 < (l.length : Int)) = false := by simp; omega
  have dx : decide (20 < (x.length : Int)) = false := by simp; omega
  have H1 := hid h1
  have H3 := hid h3
  obtain ⟨_, hck⟩ := lawRight_one h1
  have hra := rights_single (lawRight_one h3).2
  have hA : 0 ≤ A ∧ A ≤ n - 1 := by
    have := hra
    simp only [rightB, decide_eq_true_eq] at this
    exact this.1
  obtain ⟨⟨hn1, hn2⟩, _, _⟩ := checkN_in hck
  obtain ⟨N, rfl⟩ : ∃ N : Nat, n = (N : Int) := ⟨n.toNat, by omega⟩
  obtain ⟨K, rfl⟩ : ∃ K : Nat, A = (K : Int) := ⟨A.toNat, by omega⟩
  have hln := lineN_of hck hra
  obtain ⟨hg1, hg2, hg3, hg4⟩ := great_one hck hra
  have hsp := fun h1 h2 => great_span (n := N) (k := K) (l := l) (x := x) h1 h2
  obtain ⟨e0, he0⟩ : ∃ q, q = entV N l ⟨K, P, B, Q, M⟩ := ⟨_, rfl⟩
  obtain ⟨p0, hp0⟩ : ∃ q, q = possV N l := ⟨_, rfl⟩
  obtain ⟨m, hm⟩ : ∃ q, q = mostV N l ⟨K, P, B, Q, M⟩ := ⟨_, rfl⟩
  obtain ⟨F, hF⟩ : ∃ q, q = fitIs N l x := ⟨_, rfl⟩
  obtain ⟨lo, hlo⟩ : ∃ q, q = spanLo N l K := ⟨_, rfl⟩
  obtain ⟨hi, hhi⟩ : ∃ q, q = spanHi N l K := ⟨_, rfl⟩
  obtain ⟨se, hse⟩ : ∃ q, q = spanE N l K := ⟨_, rfl⟩
  rw [← hp0, hcc] at hg1
  rw [← he0, ← hp0, hcc, ← hm] at hg2
  rw [hcc, ← hp0, ← hm] at hg4
  rw [← hF, ← hlo, ← hhi, ← hse, Int.toNat_natCast] at hsp
  rw [← hm] at hmr
  clear hg3
  have hp := hg1.2 (by decide)
  have he : e0 = decide (m ≤ M) := by
    rw [hp] at hg2
    rw [Bool.eq_iff_iff, hg2]
    simp
  subst hp
  have HE0 := hid he
  clear he
  have HV := hid (And.intro he0 (And.intro hp0 (And.intro hm (And.intro hcc (And.intro hF (And.intro hlo (And.intro hhi hse)))))))
  have HC := hid (And.intro hck (And.intro hra hln))
  have HG4 := hid hg4
  have HSP := hid hsp
  clear h1 h3 hck hra hln hg1 hg2 hg4 hsp he0 hp0 hm hcc hF hlo hhi hse
  go_enter Try.func10, Try.ntmps10
  go_upto_region 3 with (first
    | (go_at_call 22; (with_reducible refine (lawright_any N l a cap _ (HL.out.below HB.out) hlen).mono ?_); rw [H1.out]; rintro e w1 ⟨rfl, hb⟩; have HB := hid (HB.out.step hb); have HX := hid (keepBox hb HX.out); obtain ⟨k0, k1, k2, k3, k4⟩ := AMat.of (x := ⟨K, P, B, Q, M⟩) HX.out; simp only [Nat.zero_add] at k0 k1 k2 k3 k4; clear hb)
    | (go_at_call 22; refine (lawright_any N [⟨K, P, B, Q, M⟩] _ _ _ (Rd.new _ [⟨K, P, B, Q, M⟩] (by simp)) (by simp)).mono ?_; rw [H3.out]; rintro e w1 ⟨rfl, hb⟩; have hb := (bnew _ _).step hb; have HB := hid (HB.out.step hb); have HX := hid (keepBox hb HX.out); obtain ⟨k0, k1, k2, k3, k4⟩ := AMat.of (x := ⟨K, P, B, Q, M⟩) HX.out; simp only [Nat.zero_add] at k0 k1 k2 k3 k4; clear hb))
  go_upto_region 4 with (go_at_call 25; (with_reducible refine (entails_any N l K P B Q M a cap _ (HL.out.below HB.out) (by omega)).mono ?_); rw [← HV.out.1, HC.out.2.2]; rintro e w1 ⟨rfl, hb⟩; have HB := hid (HB.out.step hb); have HX := hid (keepBox hb HX.out); obtain ⟨k0, k1, k2, k3, k4⟩ := AMat.of (x := ⟨K, P, B, Q, M⟩) HX.out; simp only [Nat.zero_add] at k0 k1 k2 k3 k4; clear hb)
  go_upto_region 5 with (go_at_call 24; (with_reducible refine (possible_any N l a cap _ (HL.out.below HB.out) (by omega)).mono ?_); rw [← HV.out.2.1, HC.out.1]; rintro e w1 ⟨rfl, hb⟩; have HB := hid (HB.out.step hb); have HX := hid (keepBox hb HX.out); obtain ⟨k0, k1, k2, k3, k4⟩ := AMat.of (x := ⟨K, P, B, Q, M⟩) HX.out; simp only [Nat.zero_add] at k0 k1 k2 k3 k4; clear hb)
  go_upto_region 6 with (go_at_call 18; (with_reducible refine (most_any N l K P B Q M a cap _ (HL.out.below HB.out) (by omega)).mono ?_); rw [← HV.out.2.2.1, HV.out.2.2.2.1]; rintro e w1 ⟨rfl, hb⟩; have HB := hid (HB.out.step hb); have HX := hid (keepBox hb HX.out); obtain ⟨k0, k1, k2, k3, k4⟩ := AMat.of (x := ⟨K, P, B, Q, M⟩) HX.out; simp only [Nat.zero_add] at k0 k1 k2 k3 k4; clear hb)
  generalize hW6 : w1 = W6 at *
  clear hW6
  go_cut [95] (fun s wx => s = .bool false ∧ wx = W6)
  case first =>
    have he := HE0.out
    by_cases hmm : m ≤ M
    · have dm : decide (m ≤ M) = true := by simpa using hmm
      rw [dm] at he
      subst he
      clear hmm
      go_wp2
      go_meet
      exact ⟨rfl, rfl⟩
    · have dm : decide (m ≤ M) = false := by simpa using hmm
      rw [dm] at he
      subst he
      clear hmm
      go_wp2
      go_meet
      exact ⟨rfl, rfl⟩
  case rest =>
    obtain ⟨rfl, rfl⟩ := hcut
    go_upto_region 9 with (go_at_call 20; (with_reducible refine (span_any N l K a cap _ (HL.out.below HB.out) (by omega)).mono ?_); rw [← HV.out.2.2.2.2.2.1, ← HV.out.2.2.2.2.2.2.1, ← HV.out.2.2.2.2.2.2.2]; rintro e w1 ⟨rfl, hb⟩; have HB := hid (HB.out.step hb); have HX := hid (keepBox hb HX.out); obtain ⟨k0, k1, k2, k3, k4⟩ := AMat.of (x := ⟨K, P, B, Q, M⟩) HX.out; simp only [Nat.zero_add] at k0 k1 k2 k3 k4; clear hb)
    generalize hW9 : w1 = W9 at *
    clear hW9
    go_cut [142] (fun s wx => s = .bool false ∧ Below W9.heap.size W9 wx)
    case first =>
      cases F with
      | false =>
        go_wp2_with (go_at_call 40; (with_reducible refine (lawfits_any N l x a cap b cb _ (HL.out.below HB.out) hlen (HN.out.below HB.out) hxl).mono ?_); rw [← HV.out.2.2.2.2.1]; rintro e w9 ⟨rfl, hb⟩; have HD := hid hb; obtain ⟨k0, k1, k2, k3, k4⟩ := AMat.of (x := ⟨K, P, B, Q, M⟩) (keepBox hb HX.out); simp only [Nat.zero_add] at k0 k1 k2 k3 k4; clear hb)
        go_meet
        exact ⟨rfl, HD.out⟩
      | true =>
        by_cases hz : se = 0
        · have hz' : (se == 0) = true := by simpa using hz
          obtain ⟨hkx, hs1, hs2⟩ := HSP.out rfl hz
          clear hz
          obtain ⟨b7, o7, hbe, _, _⟩ := (HN.out.below HB.out) K hkx
          subst hbe
          obtain ⟨xk, hxk⟩ : ∃ q, q = x[K] := ⟨_, rfl⟩
          rw [← hxk] at hs1 hs2
          have HXK := hid hxk
          have d1 : decide (xk < lo) = false := by simp; omega
          have d2 : decide (hi < xk) = false := by simp; omega
          have hk0 : (0 : Int) ≤ K := by omega
          have hk1 : (K : Int) < (x.length : Int) := by omega
          clear hs1 hs2 hxk
          go_wp2_with (go_at_call 40; (with_reducible refine (lawfits_any N l x a cap (some ⟨b7, o7, none⟩) cb _ (HL.out.below HB.out) hlen (HN.out.below HB.out) hxl).mono ?_); rw [← HV.out.2.2.2.2.1]; rintro e w9 ⟨rfl, hb⟩; have HD := hid hb; obtain ⟨k0, k1, k2, k3, k4⟩ := AMat.of (x := ⟨K, P, B, Q, M⟩) (keepBox hb HX.out); simp only [Nat.zero_add] at k0 k1 k2 k3 k4; clear hb; obtain ⟨_, _, hbe, _, hcell⟩ := (HN.out.below (HB.out.step HD.out)) K hkx; cases hbe; rw [← HXK.out] at hcell)
          go_meet
          exact ⟨rfl, HD.out⟩
        · have hz' : (se == 0) = false := by simpa using hz
          clear hz
          go_wp2_with (go_at_call 40; (with_reducible refine (lawfits_any N l x a cap b cb _ (HL.out.below HB.out) hlen (HN.out.below HB.out) hxl).mono ?_); rw [← HV.out.2.2.2.2.1]; rintro e w9 ⟨rfl, hb⟩; have HD := hid hb; obtain ⟨k0, k1, k2, k3, k4⟩ := AMat.of (x := ⟨K, P, B, Q, M⟩) (keepBox hb HX.out); simp only [Nat.zero_add] at k0 k1 k2 k3 k4; clear hb)
          go_meet
          exact ⟨rfl, HD.out⟩
    case rest =>
      obtain ⟨rfl, hb⟩ := hcut
      have HB := hid (HB.out.step hb); have HX := hid (keepBox hb HX.out); obtain ⟨k0, k1, k2, k3, k4⟩ := AMat.of (x := ⟨K, P, B, Q, M⟩) HX.out; simp only [Nat.zero_add] at k0 k1 k2 k3 k4; clear hb
      have d1 : decide (m < -1000000) = true := by simpa using hmr
      go_wp2_with (go_at_call 17; refine (sanity_any _).mono ?_; rintro e w1 ⟨rfl, hb⟩; have HB := hid (HB.out.step hb); have HX := hid (keepBox hb HX.out); obtain ⟨k0, k1, k2, k3, k4⟩ := AMat.of (x := ⟨K, P, B, Q, M⟩) HX.out; simp only [Nat.zero_add] at k0 k1 k2 k3 k4; clear hb)
      go_ret
      exact ⟨rfl, HB.out⟩

set_option maxRecDepth 100000 in
set_option maxHeartbeats 16000000 in
theorem greatest_zhi (n : Int) (l : List AM) (A P B Q M : Int) (x : List Int) (a : Option Addr) (cap : Nat) (b : Option Addr) (cb : Nat) (w : World) (hl : Rd w a l) (hlen : l.length ≤ 9223372036854775807) (hx : RdI w b x) (hxl : x.length ≤ 9223372036854775807) (h1 : lawRight n l = true) (h2 : ¬38 < l.length) (h4 : ¬20 < x.length) (h3 : lawRight n [⟨A, P, B, Q, M⟩] = true) (hcc : mostC n l ⟨A, P, B, Q, M⟩ = 0) (hmr : 1000000 ≤ mostV n l ⟨A, P, B, Q, M⟩) :
    Calls Try.prog 10 #[.int .i64 n, .slice a l.length cap, .agg #[.int .i64 A, .int .i64 P, .int .i64 B, .int .i64 Q, .int .i64 M], .slice b x.length cb] w (RetB (.bool true) w) := by
  have HL := hid hl; clear hl
  have HN := hid hx; clear hx
  have HB := hid (bnew w (.cells #[.int .i64 A, .int .i64 P, .int .i64 B, .int .i64 Q, .int .i64 M] 24))
  have HX : Hid ((w.alloc (.cells #[.int .i64 A, .int .i64 P, .int .i64 B, .int .i64 Q, .int .i64 M] 24)).heap[w.heap.size]? = some (.cells #[.int .i64 A, .int .i64 P, .int .i64 B, .int .i64 Q, .int .i64 M] 24 (0, 0))) := hid (by simp only [heap_alloc_if] <;> simp)
  obtain ⟨k0, k1, k2, k3, k4⟩ := AMat.of (x := ⟨A, P, B, Q, M⟩) HX.out
  simp only [Nat.zero_add] at k0 k1 k2 k3 k4
  have dl : decide (38 < (l.length : Int)) = false := by simp; omega
  have dx : decide (20 < (x.length : Int)) = false := by simp; omega
  have H1 := hid h1
  have H3 := hid h3
  obtain ⟨_, hck⟩ := lawRight_one h1
  have hra := rights_single (lawRight_one h3).2
  have hA : 0 ≤ A ∧ A ≤ n - 1 := by
    have := hra
    simp only [rightB, decide_eq_true_eq] at this
    exact this.1
  obtain ⟨⟨hn1, hn2⟩, _, _⟩ := checkN_in hck
  obtain ⟨N, rfl⟩ : ∃ N : Nat, n = (N : Int) := ⟨n.toNat, by omega⟩
  obtain ⟨K, rfl⟩ : ∃ K : Nat, A = (K : Int) := ⟨A.toNat, by omega⟩
  have hln := lineN_of hck hra
  obtain ⟨hg1, hg2, hg3, hg4⟩ := great_one hck hra
  have hsp := fun h1 h2 => great_span (n := N) (k := K) (l := l) (x := x) h1 h2
  obtain ⟨e0, he0⟩ : ∃ q, q = entV N l ⟨K, P, B, Q, M⟩ := ⟨_, rfl⟩
  obtain ⟨p0, hp0⟩ : ∃ q, q = possV N l := ⟨_, rfl⟩
  obtain ⟨m, hm⟩ : ∃ q, q = mostV N l ⟨K, P, B, Q, M⟩ := ⟨_, rfl⟩
  obtain ⟨F, hF⟩ : ∃ q, q = fitIs N l x := ⟨_, rfl⟩
  obtain ⟨lo, hlo⟩ : ∃ q, q = spanLo N l K := ⟨_, rfl⟩
  obtain ⟨hi, hhi⟩ : ∃ q, q = spanHi N l K := ⟨_, rfl⟩
  obtain ⟨se, hse⟩ : ∃ q, q = spanE N l K := ⟨_, rfl⟩
  rw [← hp0, hcc] at hg1
  rw [← he0, ← hp0, hcc, ← hm] at hg2
  rw [hcc, ← hp0, ← hm] at hg4
  rw [← hF, ← hlo, ← hhi, ← hse, Int.toNat_natCast] at hsp
  rw [← hm] at hmr
  clear hg3
  have hp := hg1.2 (by decide)
  have he : e0 = decide (m ≤ M) := by
    rw [hp] at hg2
    rw [Bool.eq_iff_iff, hg2]
    simp
  subst hp
  have HE0 := hid he
  clear he
  have HV := hid (And.intro he0 (And.intro hp0 (And.intro hm (And.intro hcc (And.intro hF (And.intro hlo (And.intro hhi hse)))))))
  have HC := hid (And.intro hck (And.intro hra hln))
  have HG4 := hid hg4
  have HSP := hid hsp
  clear h1 h3 hck hra hln hg1 hg2 hg4 hsp he0 hp0 hm hcc hF hlo hhi hse
  go_enter Try.func10, Try.ntmps10
  go_upto_region 3 with (first
    | (go_at_call 22; (with_reducible refine (lawright_any N l a cap _ (HL.out.below HB.out) hlen).mono ?_); rw [H1.out]; rintro e w1 ⟨rfl, hb⟩; have HB := hid (HB.out.step hb); have HX := hid (keepBox hb HX.out); obtain ⟨k0, k1, k2, k3, k4⟩ := AMat.of (x := ⟨K, P, B, Q, M⟩) HX.out; simp only [Nat.zero_add] at k0 k1 k2 k3 k4; clear hb)
    | (go_at_call 22; refine (lawright_any N [⟨K, P, B, Q, M⟩] _ _ _ (Rd.new _ [⟨K, P, B, Q, M⟩] (by simp)) (by simp)).mono ?_; rw [H3.out]; rintro e w1 ⟨rfl, hb⟩; have hb := (bnew _ _).step hb; have HB := hid (HB.out.step hb); have HX := hid (keepBox hb HX.out); obtain ⟨k0, k1, k2, k3, k4⟩ := AMat.of (x := ⟨K, P, B, Q, M⟩) HX.out; simp only [Nat.zero_add] at k0 k1 k2 k3 k4; clear hb))
  go_upto_region 4 with (go_at_call 25; (with_reducible refine (entails_any N l K P B Q M a cap _ (HL.out.below HB.out) (by omega)).mono ?_); rw [← HV.out.1, HC.out.2.2]; rintro e w1 ⟨rfl, hb⟩; have HB := hid (HB.out.step hb); have HX := hid (keepBox hb HX.out); obtain ⟨k0, k1, k2, k3, k4⟩ := AMat.of (x := ⟨K, P, B, Q, M⟩) HX.out; simp only [Nat.zero_add] at k0 k1 k2 k3 k4; clear hb)
  go_upto_region 5 with (go_at_call 24; (with_reducible refine (possible_any N l a cap _ (HL.out.below HB.out) (by omega)).mono ?_); rw [← HV.out.2.1, HC.out.1]; rintro e w1 ⟨rfl, hb⟩; have HB := hid (HB.out.step hb); have HX := hid (keepBox hb HX.out); obtain ⟨k0, k1, k2, k3, k4⟩ := AMat.of (x := ⟨K, P, B, Q, M⟩) HX.out; simp only [Nat.zero_add] at k0 k1 k2 k3 k4; clear hb)
  go_upto_region 6 with (go_at_call 18; (with_reducible refine (most_any N l K P B Q M a cap _ (HL.out.below HB.out) (by omega)).mono ?_); rw [← HV.out.2.2.1, HV.out.2.2.2.1]; rintro e w1 ⟨rfl, hb⟩; have HB := hid (HB.out.step hb); have HX := hid (keepBox hb HX.out); obtain ⟨k0, k1, k2, k3, k4⟩ := AMat.of (x := ⟨K, P, B, Q, M⟩) HX.out; simp only [Nat.zero_add] at k0 k1 k2 k3 k4; clear hb)
  generalize hW6 : w1 = W6 at *
  clear hW6
  go_cut [95] (fun s wx => s = .bool false ∧ wx = W6)
  case first =>
    have he := HE0.out
    by_cases hmm : m ≤ M
    · have dm : decide (m ≤ M) = true := by simpa using hmm
      rw [dm] at he
      subst he
      clear hmm
      go_wp2
      go_meet
      exact ⟨rfl, rfl⟩
    · have dm : decide (m ≤ M) = false := by simpa using hmm
      rw [dm] at he
      subst he
      clear hmm
      go_wp2
      go_meet
      exact ⟨rfl, rfl⟩
  case rest =>
    obtain ⟨rfl, rfl⟩ := hcut
    go_upto_region 9 with (go_at_call 20; (with_reducible refine (span_any N l K a cap _ (HL.out.below HB.out) (by omega)).mono ?_); rw [← HV.out.2.2.2.2.2.1, ← HV.out.2.2.2.2.2.2.1, ← HV.out.2.2.2.2.2.2.2]; rintro e w1 ⟨rfl, hb⟩; have HB := hid (HB.out.step hb); have HX := hid (keepBox hb HX.out); obtain ⟨k0, k1, k2, k3, k4⟩ := AMat.of (x := ⟨K, P, B, Q, M⟩) HX.out; simp only [Nat.zero_add] at k0 k1 k2 k3 k4; clear hb)
    generalize hW9 : w1 = W9 at *
    clear hW9
    go_cut [142] (fun s wx => s = .bool false ∧ Below W9.heap.size W9 wx)
    case first =>
      cases F with
      | false =>
        go_wp2_with (go_at_call 40; (with_reducible refine (lawfits_any N l x a cap b cb _ (HL.out.below HB.out) hlen (HN.out.below HB.out) hxl).mono ?_); rw [← HV.out.2.2.2.2.1]; rintro e w9 ⟨rfl, hb⟩; have HD := hid hb; obtain ⟨k0, k1, k2, k3, k4⟩ := AMat.of (x := ⟨K, P, B, Q, M⟩) (keepBox hb HX.out); simp only [Nat.zero_add] at k0 k1 k2 k3 k4; clear hb)
        go_meet
        exact ⟨rfl, HD.out⟩
      | true =>
        by_cases hz : se = 0
        · have hz' : (se == 0) = true := by simpa using hz
          obtain ⟨hkx, hs1, hs2⟩ := HSP.out rfl hz
          clear hz
          obtain ⟨b7, o7, hbe, _, _⟩ := (HN.out.below HB.out) K hkx
          subst hbe
          obtain ⟨xk, hxk⟩ : ∃ q, q = x[K] := ⟨_, rfl⟩
          rw [← hxk] at hs1 hs2
          have HXK := hid hxk
          have d1 : decide (xk < lo) = false := by simp; omega
          have d2 : decide (hi < xk) = false := by simp; omega
          have hk0 : (0 : Int) ≤ K := by omega
          have hk1 : (K : Int) < (x.length : Int) := by omega
          clear hs1 hs2 hxk
          go_wp2_with (go_at_call 40; (with_reducible refine (lawfits_any N l x a cap (some ⟨b7, o7, none⟩) cb _ (HL.out.below HB.out) hlen (HN.out.below HB.out) hxl).mono ?_); rw [← HV.out.2.2.2.2.1]; rintro e w9 ⟨rfl, hb⟩; have HD := hid hb; obtain ⟨k0, k1, k2, k3, k4⟩ := AMat.of (x := ⟨K, P, B, Q, M⟩) (keepBox hb HX.out); simp only [Nat.zero_add] at k0 k1 k2 k3 k4; clear hb; obtain ⟨_, _, hbe, _, hcell⟩ := (HN.out.below (HB.out.step HD.out)) K hkx; cases hbe; rw [← HXK.out] at hcell)
          go_meet
          exact ⟨rfl, HD.out⟩
        · have hz' : (se == 0) = false := by simpa using hz
          clear hz
          go_wp2_with (go_at_call 40; (with_reducible refine (lawfits_any N l x a cap b cb _ (HL.out.below HB.out) hlen (HN.out.below HB.out) hxl).mono ?_); rw [← HV.out.2.2.2.2.1]; rintro e w9 ⟨rfl, hb⟩; have HD := hid hb; obtain ⟨k0, k1, k2, k3, k4⟩ := AMat.of (x := ⟨K, P, B, Q, M⟩) (keepBox hb HX.out); simp only [Nat.zero_add] at k0 k1 k2 k3 k4; clear hb)
          go_meet
          exact ⟨rfl, HD.out⟩
    case rest =>
      obtain ⟨rfl, hb⟩ := hcut
      have HB := hid (HB.out.step hb); have HX := hid (keepBox hb HX.out); obtain ⟨k0, k1, k2, k3, k4⟩ := AMat.of (x := ⟨K, P, B, Q, M⟩) HX.out; simp only [Nat.zero_add] at k0 k1 k2 k3 k4; clear hb
      have d1 : decide (m < -1000000) = false := by simp; omega
      have d2 : decide (1000000 ≤ m) = true := by simpa using hmr
      go_wp2_with (go_at_call 17; refine (sanity_any _).mono ?_; rintro e w1 ⟨rfl, hb⟩; have HB := hid (HB.out.step hb); have HX := hid (keepBox hb HX.out); obtain ⟨k0, k1, k2, k3, k4⟩ := AMat.of (x := ⟨K, P, B, Q, M⟩) HX.out; simp only [Nat.zero_add] at k0 k1 k2 k3 k4; clear hb)
      go_ret
      exact ⟨rfl, HB.out⟩

set_option maxRecDepth 100000 in
set_option maxHeartbeats 16000000 in
theorem greatest_zin (n : Int) (l : List AM) (A P B Q M : Int) (x : List Int) (a : Option Addr) (cap : Nat) (b : Option Addr) (cb : Nat) (w : World) (hl : Rd w a l) (hlen : l.length ≤ 9223372036854775807) (hx : RdI w b x) (hxl : x.length ≤ 9223372036854775807) (h1 : lawRight n l = true) (h2 : ¬38 < l.length) (h4 : ¬20 < x.length) (h3 : lawRight n [⟨A, P, B, Q, M⟩] = true) (hcc : mostC n l ⟨A, P, B, Q, M⟩ = 0) (hmr : -1000000 ≤ mostV n l ⟨A, P, B, Q, M⟩ ∧ mostV n l ⟨A, P, B, Q, M⟩ < 1000000) :
    Calls Try.prog 10 #[.int .i64 n, .slice a l.length cap, .agg #[.int .i64 A, .int .i64 P, .int .i64 B, .int .i64 Q, .int .i64 M], .slice b x.length cb] w (RetB (.bool true) w) := by
  have HL := hid hl; clear hl
  have HN := hid hx; clear hx
  have HB := hid (bnew w (.cells #[.int .i64 A, .int .i64 P, .int .i64 B, .int .i64 Q, .int .i64 M] 24))
  have HX : Hid ((w.alloc (.cells #[.int .i64 A, .int .i64 P, .int .i64 B, .int .i64 Q, .int .i64 M] 24)).heap[w.heap.size]? = some (.cells #[.int .i64 A, .int .i64 P, .int .i64 B, .int .i64 Q, .int .i64 M] 24 (0, 0))) := hid (by simp only [heap_alloc_if] <;> simp)
  obtain ⟨k0, k1, k2, k3, k4⟩ := AMat.of (x := ⟨A, P, B, Q, M⟩) HX.out
  simp only [Nat.zero_add] at k0 k1 k2 k3 k4
  have dl : decide (38 < (l.length : Int)) = false := by simp; omega
  have dx : decide (20 < (x.length : Int)) = false := by simp; omega
  have H1 := hid h1
  have H3 := hid h3
  obtain ⟨_, hck⟩ := lawRight_one h1
  have hra := rights_single (lawRight_one h3).2
  have hA : 0 ≤ A ∧ A ≤ n - 1 := by
    have := hra
    simp only [rightB, decide_eq_true_eq] at this
    exact this.1
  obtain ⟨⟨hn1, hn2⟩, _, _⟩ := checkN_in hck
  obtain ⟨N, rfl⟩ : ∃ N : Nat, n = (N : Int) := ⟨n.toNat, by omega⟩
  obtain ⟨K, rfl⟩ : ∃ K : Nat, A = (K : Int) := ⟨A.toNat, by omega⟩
  have hln := lineN_of hck hra
  obtain ⟨hg1, hg2, hg3, hg4⟩ := great_one hck hra
  have hsp := fun h1 h2 => great_span (n := N) (k := K) (l := l) (x := x) h1 h2
  obtain ⟨e0, he0⟩ : ∃ q, q = entV N l ⟨K, P, B, Q, M⟩ := ⟨_, rfl⟩
  obtain ⟨p0, hp0⟩ : ∃ q, q = possV N l := ⟨_, rfl⟩
  obtain ⟨m, hm⟩ : ∃ q, q = mostV N l ⟨K, P, B, Q, M⟩ := ⟨_, rfl⟩
  obtain ⟨F, hF⟩ : ∃ q, q = fitIs N l x := ⟨_, rfl⟩
  obtain ⟨lo, hlo⟩ : ∃ q, q = spanLo N l K := ⟨_, rfl⟩
  obtain ⟨hi, hhi⟩ : ∃ q, q = spanHi N l K := ⟨_, rfl⟩
  obtain ⟨se, hse⟩ : ∃ q, q = spanE N l K := ⟨_, rfl⟩
  rw [← hp0, hcc] at hg1
  rw [← he0, ← hp0, hcc, ← hm] at hg2
  rw [hcc, ← hp0, ← hm] at hg4
  rw [← hF, ← hlo, ← hhi, ← hse, Int.toNat_natCast] at hsp
  rw [← hm] at hmr
  clear hg3
  have hp := hg1.2 (by decide)
  have he : e0 = decide (m ≤ M) := by
    rw [hp] at hg2
    rw [Bool.eq_iff_iff, hg2]
    simp
  subst hp
  have HE0 := hid he
  clear he
  have HV := hid (And.intro he0 (And.intro hp0 (And.intro hm (And.intro hcc (And.intro hF (And.intro hlo (And.intro hhi hse)))))))
  have HC := hid (And.intro hck (And.intro hra hln))
  have HG4 := hid hg4
  have HSP := hid hsp
  clear h1 h3 hck hra hln hg1 hg2 hg4 hsp he0 hp0 hm hcc hF hlo hhi hse
  go_enter Try.func10, Try.ntmps10
  go_upto_region 3 with (first
    | (go_at_call 22; (with_reducible refine (lawright_any N l a cap _ (HL.out.below HB.out) hlen).mono ?_); rw [H1.out]; rintro e w1 ⟨rfl, hb⟩; have HB := hid (HB.out.step hb); have HX := hid (keepBox hb HX.out); obtain ⟨k0, k1, k2, k3, k4⟩ := AMat.of (x := ⟨K, P, B, Q, M⟩) HX.out; simp only [Nat.zero_add] at k0 k1 k2 k3 k4; clear hb)
    | (go_at_call 22; refine (lawright_any N [⟨K, P, B, Q, M⟩] _ _ _ (Rd.new _ [⟨K, P, B, Q, M⟩] (by simp)) (by simp)).mono ?_; rw [H3.out]; rintro e w1 ⟨rfl, hb⟩; have hb := (bnew _ _).step hb; have HB := hid (HB.out.step hb); have HX := hid (keepBox hb HX.out); obtain ⟨k0, k1, k2, k3, k4⟩ := AMat.of (x := ⟨K, P, B, Q, M⟩) HX.out; simp only [Nat.zero_add] at k0 k1 k2 k3 k4; clear hb))
  go_upto_region 4 with (go_at_call 25; (with_reducible refine (entails_any N l K P B Q M a cap _ (HL.out.below HB.out) (by omega)).mono ?_); rw [← HV.out.1, HC.out.2.2]; rintro e w1 ⟨rfl, hb⟩; have HB := hid (HB.out.step hb); have HX := hid (keepBox hb HX.out); obtain ⟨k0, k1, k2, k3, k4⟩ := AMat.of (x := ⟨K, P, B, Q, M⟩) HX.out; simp only [Nat.zero_add] at k0 k1 k2 k3 k4; clear hb)
  go_upto_region 5 with (go_at_call 24; (with_reducible refine (possible_any N l a cap _ (HL.out.below HB.out) (by omega)).mono ?_); rw [← HV.out.2.1, HC.out.1]; rintro e w1 ⟨rfl, hb⟩; have HB := hid (HB.out.step hb); have HX := hid (keepBox hb HX.out); obtain ⟨k0, k1, k2, k3, k4⟩ := AMat.of (x := ⟨K, P, B, Q, M⟩) HX.out; simp only [Nat.zero_add] at k0 k1 k2 k3 k4; clear hb)
  go_upto_region 6 with (go_at_call 18; (with_reducible refine (most_any N l K P B Q M a cap _ (HL.out.below HB.out) (by omega)).mono ?_); rw [← HV.out.2.2.1, HV.out.2.2.2.1]; rintro e w1 ⟨rfl, hb⟩; have HB := hid (HB.out.step hb); have HX := hid (keepBox hb HX.out); obtain ⟨k0, k1, k2, k3, k4⟩ := AMat.of (x := ⟨K, P, B, Q, M⟩) HX.out; simp only [Nat.zero_add] at k0 k1 k2 k3 k4; clear hb)
  generalize hW6 : w1 = W6 at *
  clear hW6
  go_cut [95] (fun s wx => s = .bool false ∧ wx = W6)
  case first =>
    have he := HE0.out
    by_cases hmm : m ≤ M
    · have dm : decide (m ≤ M) = true := by simpa using hmm
      rw [dm] at he
      subst he
      clear hmm
      go_wp2
      go_meet
      exact ⟨rfl, rfl⟩
    · have dm : decide (m ≤ M) = false := by simpa using hmm
      rw [dm] at he
      subst he
      clear hmm
      go_wp2
      go_meet
      exact ⟨rfl, rfl⟩
  case rest =>
    obtain ⟨rfl, rfl⟩ := hcut
    go_upto_region 9 with (go_at_call 20; (with_reducible refine (span_any N l K a cap _ (HL.out.below HB.out) (by omega)).mono ?_); rw [← HV.out.2.2.2.2.2.1, ← HV.out.2.2.2.2.2.2.1, ← HV.out.2.2.2.2.2.2.2]; rintro e w1 ⟨rfl, hb⟩; have HB := hid (HB.out.step hb); have HX := hid (keepBox hb HX.out); obtain ⟨k0, k1, k2, k3, k4⟩ := AMat.of (x := ⟨K, P, B, Q, M⟩) HX.out; simp only [Nat.zero_add] at k0 k1 k2 k3 k4; clear hb)
    generalize hW9 : w1 = W9 at *
    clear hW9
    go_cut [142] (fun s wx => s = .bool false ∧ Below W9.heap.size W9 wx)
    case first =>
      cases F with
      | false =>
        go_wp2_with (go_at_call 40; (with_reducible refine (lawfits_any N l x a cap b cb _ (HL.out.below HB.out) hlen (HN.out.below HB.out) hxl).mono ?_); rw [← HV.out.2.2.2.2.1]; rintro e w9 ⟨rfl, hb⟩; have HD := hid hb; obtain ⟨k0, k1, k2, k3, k4⟩ := AMat.of (x := ⟨K, P, B, Q, M⟩) (keepBox hb HX.out); simp only [Nat.zero_add] at k0 k1 k2 k3 k4; clear hb)
        go_meet
        exact ⟨rfl, HD.out⟩
      | true =>
        by_cases hz : se = 0
        · have hz' : (se == 0) = true := by simpa using hz
          obtain ⟨hkx, hs1, hs2⟩ := HSP.out rfl hz
          clear hz
          obtain ⟨b7, o7, hbe, _, _⟩ := (HN.out.below HB.out) K hkx
          subst hbe
          obtain ⟨xk, hxk⟩ : ∃ q, q = x[K] := ⟨_, rfl⟩
          rw [← hxk] at hs1 hs2
          have HXK := hid hxk
          have d1 : decide (xk < lo) = false := by simp; omega
          have d2 : decide (hi < xk) = false := by simp; omega
          have hk0 : (0 : Int) ≤ K := by omega
          have hk1 : (K : Int) < (x.length : Int) := by omega
          clear hs1 hs2 hxk
          go_wp2_with (go_at_call 40; (with_reducible refine (lawfits_any N l x a cap (some ⟨b7, o7, none⟩) cb _ (HL.out.below HB.out) hlen (HN.out.below HB.out) hxl).mono ?_); rw [← HV.out.2.2.2.2.1]; rintro e w9 ⟨rfl, hb⟩; have HD := hid hb; obtain ⟨k0, k1, k2, k3, k4⟩ := AMat.of (x := ⟨K, P, B, Q, M⟩) (keepBox hb HX.out); simp only [Nat.zero_add] at k0 k1 k2 k3 k4; clear hb; obtain ⟨_, _, hbe, _, hcell⟩ := (HN.out.below (HB.out.step HD.out)) K hkx; cases hbe; rw [← HXK.out] at hcell)
          go_meet
          exact ⟨rfl, HD.out⟩
        · have hz' : (se == 0) = false := by simpa using hz
          clear hz
          go_wp2_with (go_at_call 40; (with_reducible refine (lawfits_any N l x a cap b cb _ (HL.out.below HB.out) hlen (HN.out.below HB.out) hxl).mono ?_); rw [← HV.out.2.2.2.2.1]; rintro e w9 ⟨rfl, hb⟩; have HD := hid hb; obtain ⟨k0, k1, k2, k3, k4⟩ := AMat.of (x := ⟨K, P, B, Q, M⟩) (keepBox hb HX.out); simp only [Nat.zero_add] at k0 k1 k2 k3 k4; clear hb)
          go_meet
          exact ⟨rfl, HD.out⟩
    case rest =>
      obtain ⟨rfl, hb⟩ := hcut
      have HB := hid (HB.out.step hb); have HX := hid (keepBox hb HX.out); obtain ⟨k0, k1, k2, k3, k4⟩ := AMat.of (x := ⟨K, P, B, Q, M⟩) HX.out; simp only [Nat.zero_add] at k0 k1 k2 k3 k4; clear hb
      obtain ⟨hm1, hm2⟩ := hmr
      have d1 : decide (m < -1000000) = false := by simp; omega
      have d2 : decide (1000000 ≤ m) = false := by simp; omega
      have hrp := right_parts HC.out.2.1
      have hp1 : -1 ≤ P := hrp.1.1
      have hp2 : P ≤ 1 := hrp.1.2
      have hq1 : -1 ≤ Q := hrp.2.1.1
      have hq2 : Q ≤ 1 := hrp.2.1.2
      clear hrp
      go_upto_region 15 with fail
      have HJ : Hid ((wc.alloc (.cells #[.int .i64 K, .int .i64 P, .int .i64 B, .int .i64 Q, .int .i64 m] 24)).heap[wc.heap.size]? = some (.cells #[.int .i64 K, .int .i64 P, .int .i64 B, .int .i64 Q, .int .i64 m] 24 (0, 0))) := hid (by simp only [heap_alloc_if] <;> simp)
      have HX := hid (keepBox (bnew wc (.cells #[.int .i64 K, .int .i64 P, .int .i64 B, .int .i64 Q, .int .i64 m] 24)) HX.out)
      have HB := hid (bmore HB.out (.cells #[.int .i64 K, .int .i64 P, .int .i64 B, .int .i64 Q, .int .i64 m] 24))
      clear k0 k1 k2 k3 k4
      generalize wc.alloc (.cells #[.int .i64 K, .int .i64 P, .int .i64 B, .int .i64 Q, .int .i64 m] 24) = W3 at *
      generalize wc.heap.size = j1 at *
      obtain ⟨i0, i1, i2, i3, i4⟩ := AMat.of (x := ⟨K, P, B, Q, m⟩) HJ.out
      simp only [Nat.zero_add] at i0 i1 i2 i3 i4
      obtain ⟨k0, k1, k2, k3, k4⟩ := AMat.of (x := ⟨K, P, B, Q, M⟩) HX.out
      simp only [Nat.zero_add] at k0 k1 k2 k3 k4
      by_cases ho : oppE N ⟨K, P, B, Q, m⟩ = 0
      · have hv : (oppL N ⟨K, P, B, Q, m⟩).val = .agg #[.int .i64 K, .int .i64 (-P), .int .i64 B, .int .i64 (-Q), .int .i64 (-m - 1)] := by
          unfold oppL
          rw [if_pos ho]
          rfl
        have hmx : IsMax l ⟨K, P, B, Q, M⟩ m := (HG4.out (by first | rfl | trivial)).2
        obtain ⟨c1, p1, c2, p2⟩ := great_two (a := ⟨K, P, B, Q, M⟩) HC.out.1 (by omega) HC.out.2.1 hmx ⟨hm1, hm2⟩ ho
        have hft := fun h => great_fit (a := ⟨K, P, B, Q, M⟩) (x := x) HC.out.2.1 hmx ⟨hm1, hm2⟩ h
        obtain ⟨mo, hmo⟩ : ∃ q, q = l ++ [(⟨K, -P, B, -Q, -m - 1⟩ : AM)] := ⟨_, rfl⟩
        obtain ⟨m1, hmm1⟩ : ∃ q, q = l ++ [(⟨K, P, B, Q, m⟩ : AM)] := ⟨_, rfl⟩
        obtain ⟨m2, hmm2⟩ : ∃ q, q = m1 ++ [(⟨K, -P, B, -Q, -m⟩ : AM)] := ⟨_, rfl⟩
        have c1' : checkN N mo = 0 := by rw [hmo]; exact c1
        have p1' : possV N mo = false := by rw [hmo]; exact p1
        have c2' : checkN N m2 = 0 := by rw [hmm2, hmm1]; exact c2
        have p2' : possV N m2 = true := by rw [hmm2, hmm1]; exact p2
        have l0 : mo.length ≤ 1000000 := by rw [hmo, List.length_append, List.length_singleton]; omega
        have l1 : m1.length ≤ 1000 := by rw [hmm1, List.length_append, List.length_singleton]; omega
        have l2 : m2.length ≤ 1000000 := by rw [hmm2, List.length_append, List.length_singleton]; omega
        have HMO := hid hmo
        have HM1 := hid hmm1
        have HM2 := hid hmm2
        have HP := hid (And.intro c1' (And.intro p1' (And.intro c2' p2')))
        have HFT := hid hft
        have HOV := hid (And.intro hv ho)
        clear hv ho hmx c1 p1 c2 p2 c1' p1' c2' p2' hmo hmm1 hmm2 hft
        go_upto_region 16 with (go_at_call 41; (with_reducible refine (oppose_any N K P B Q m _).mono ?_); rw [HOV.out.1, HOV.out.2]; rintro e w8 ⟨rfl, hb⟩; have HB := hid (HB.out.step hb); have HX := hid (keepBox hb HX.out); obtain ⟨k0, k1, k2, k3, k4⟩ := AMat.of (x := ⟨K, P, B, Q, M⟩) HX.out; simp only [Nat.zero_add] at k0 k1 k2 k3 k4; have HJ := hid (keepBox hb HJ.out); obtain ⟨i0, i1, i2, i3, i4⟩ := AMat.of (x := ⟨K, P, B, Q, m⟩) HJ.out; simp only [Nat.zero_add] at i0 i1 i2 i3 i4; clear hb)
        have HO : Hid ((w8.alloc (.cells #[.int .i64 K, .int .i64 (-P), .int .i64 B, .int .i64 (-Q), .int .i64 (-m - 1)] 24)).heap[w8.heap.size]? = some (.cells #[.int .i64 K, .int .i64 (-P), .int .i64 B, .int .i64 (-Q), .int .i64 (-m - 1)] 24 (0, 0))) := hid (by simp only [heap_alloc_if] <;> simp)
        have HX := hid (keepBox (bnew w8 (.cells #[.int .i64 K, .int .i64 (-P), .int .i64 B, .int .i64 (-Q), .int .i64 (-m - 1)] 24)) HX.out)
        have HJ := hid (keepBox (bnew w8 (.cells #[.int .i64 K, .int .i64 (-P), .int .i64 B, .int .i64 (-Q), .int .i64 (-m - 1)] 24)) HJ.out)
        have HB := hid (bmore HB.out (.cells #[.int .i64 K, .int .i64 (-P), .int .i64 B, .int .i64 (-Q), .int .i64 (-m - 1)] 24))
        clear k0 k1 k2 k3 k4
        clear i0 i1 i2 i3 i4
        generalize w8.alloc (.cells #[.int .i64 K, .int .i64 (-P), .int .i64 B, .int .i64 (-Q), .int .i64 (-m - 1)] 24) = W4 at *
        generalize w8.heap.size = j2 at *
        obtain ⟨o0, o1, o2, o3, o4⟩ := AMat.of (x := ⟨K, -P, B, -Q, -m - 1⟩) HO.out
        simp only [Nat.zero_add] at o0 o1 o2 o3 o4
        obtain ⟨k0, k1, k2, k3, k4⟩ := AMat.of (x := ⟨K, P, B, Q, M⟩) HX.out
        simp only [Nat.zero_add] at k0 k1 k2 k3 k4
        obtain ⟨i0, i1, i2, i3, i4⟩ := AMat.of (x := ⟨K, P, B, Q, m⟩) HJ.out
        simp only [Nat.zero_add] at i0 i1 i2 i3 i4
        go_upto_region 19 with (first
          | (go_at_call 23; (with_reducible refine (with_any l K (-P) B (-Q) (-m - 1) a cap _ (HL.out.below HB.out) (by omega)).mono ?_); rintro e w1 ⟨hb, v, rfl, hown⟩; rw [← HMO.out] at hown; obtain ⟨ao, co, rfl, hrd⟩ := hown.rd; have HRO := hid hrd; clear hown hrd; have HB := hid (HB.out.step hb); have HX := hid (keepBox hb HX.out); obtain ⟨k0, k1, k2, k3, k4⟩ := AMat.of (x := ⟨K, P, B, Q, M⟩) HX.out; simp only [Nat.zero_add] at k0 k1 k2 k3 k4; have HJ := hid (keepBox hb HJ.out); obtain ⟨i0, i1, i2, i3, i4⟩ := AMat.of (x := ⟨K, P, B, Q, m⟩) HJ.out; simp only [Nat.zero_add] at i0 i1 i2 i3 i4; have HO := hid (keepBox hb HO.out); obtain ⟨o0, o1, o2, o3, o4⟩ := AMat.of (x := ⟨K, -P, B, -Q, -m - 1⟩) HO.out; simp only [Nat.zero_add] at o0 o1 o2 o3 o4; clear hb)
          | (go_at_call 24; (with_reducible refine (possible_any N mo ao co _ HRO.out l0).mono ?_); rw [HP.out.1, HP.out.2.1]; rintro e w8 ⟨rfl, hb⟩; have HB := hid (HB.out.step hb); have HX := hid (keepBox hb HX.out); obtain ⟨k0, k1, k2, k3, k4⟩ := AMat.of (x := ⟨K, P, B, Q, M⟩) HX.out; simp only [Nat.zero_add] at k0 k1 k2 k3 k4; have HJ := hid (keepBox hb HJ.out); obtain ⟨i0, i1, i2, i3, i4⟩ := AMat.of (x := ⟨K, P, B, Q, m⟩) HJ.out; simp only [Nat.zero_add] at i0 i1 i2 i3 i4; have HO := hid (keepBox hb HO.out); obtain ⟨o0, o1, o2, o3, o4⟩ := AMat.of (x := ⟨K, -P, B, -Q, -m - 1⟩) HO.out; simp only [Nat.zero_add] at o0 o1 o2 o3 o4; clear hb))
        clear o0 o1 o2 o3 o4 HO
        have hlx := lt_of_heap HX.out
        go_upto_region 20 with fail
        have y1 : (w8.alloc (.cells #[.int .i64 K, .int .i64 P, .int .i64 B, .int .i64 Q, .int .i64 M] 24)).cell? ⟨w.heap.size, 1, none⟩ = some (.int .i64 P) := cell_later (bnew _ _) k1
        have y3 : (w8.alloc (.cells #[.int .i64 K, .int .i64 P, .int .i64 B, .int .i64 Q, .int .i64 M] 24)).cell? ⟨w.heap.size, 3, none⟩ = some (.int .i64 Q) := cell_later (bnew _ _) k3
        go_upto_region 23 with fail
        clear y1 y3 hlx
        have HE : Hid ((w8.alloc (.cells #[.int .i64 K, .int .i64 (-P), .int .i64 B, .int .i64 (-Q), .int .i64 (-m)] 24)).heap[w8.heap.size]? = some (.cells #[.int .i64 K, .int .i64 (-P), .int .i64 B, .int .i64 (-Q), .int .i64 (-m)] 24 (0, 0))) := hid (by simp only [heap_alloc_if] <;> simp)
        have HX := hid (keepBox (bnew w8 (.cells #[.int .i64 K, .int .i64 (-P), .int .i64 B, .int .i64 (-Q), .int .i64 (-m)] 24)) HX.out)
        have HJ := hid (keepBox (bnew w8 (.cells #[.int .i64 K, .int .i64 (-P), .int .i64 B, .int .i64 (-Q), .int .i64 (-m)] 24)) HJ.out)
        have HB := hid (bmore HB.out (.cells #[.int .i64 K, .int .i64 (-P), .int .i64 B, .int .i64 (-Q), .int .i64 (-m)] 24))
        clear k0 k1 k2 k3 k4
        clear i0 i1 i2 i3 i4
        generalize w8.alloc (.cells #[.int .i64 K, .int .i64 (-P), .int .i64 B, .int .i64 (-Q), .int .i64 (-m)] 24) = W5 at *
        generalize w8.heap.size = j3 at *
        obtain ⟨u0, u1, u2, u3, u4⟩ := AMat.of (x := ⟨K, -P, B, -Q, -m⟩) HE.out
        simp only [Nat.zero_add] at u0 u1 u2 u3 u4
        obtain ⟨k0, k1, k2, k3, k4⟩ := AMat.of (x := ⟨K, P, B, Q, M⟩) HX.out
        simp only [Nat.zero_add] at k0 k1 k2 k3 k4
        obtain ⟨i0, i1, i2, i3, i4⟩ := AMat.of (x := ⟨K, P, B, Q, m⟩) HJ.out
        simp only [Nat.zero_add] at i0 i1 i2 i3 i4
        go_region_held3 (fun w' => w'.cell? ⟨j1, 0, none⟩ = some (.int .i64 K) ∧ w'.cell? ⟨j1, 1, none⟩ = some (.int .i64 P) ∧ w'.cell? ⟨j1, 2, none⟩ = some (.int .i64 B) ∧ w'.cell? ⟨j1, 3, none⟩ = some (.int .i64 Q) ∧ w'.cell? ⟨j1, 4, none⟩ = some (.int .i64 m) ∧ w'.cell? ⟨j3, 0, none⟩ = some (.int .i64 K) ∧ w'.cell? ⟨j3, 1, none⟩ = some (.int .i64 (-P)) ∧ w'.cell? ⟨j3, 2, none⟩ = some (.int .i64 B) ∧ w'.cell? ⟨j3, 3, none⟩ = some (.int .i64 (-Q)) ∧ w'.cell? ⟨j3, 4, none⟩ = some (.int .i64 (-m))) (first | exact ⟨i0, i1, i2, i3, i4, u0, u1, u2, u3, u4⟩ | exact ⟨cell_later hb i0, cell_later hb i1, cell_later hb i2, cell_later hb i3, cell_later hb i4, cell_later hb u0, cell_later hb u1, cell_later hb u2, cell_later hb u3, cell_later hb u4⟩)
          ((first
            | (go_at_call 23; (with_reducible refine (with_any l K P B Q m a cap _ (HL.out.below (HB.out.step (bdrew _))) (by omega)).mono ?_); rintro e w1 ⟨hb, v, rfl, hown⟩; rw [← HM1.out] at hown; obtain ⟨a1, cc1, rfl, hrd⟩ := hown.rd; have HR1 := hid hrd; have hb := (bdrew W5).step hb; clear hown hrd)
            | (go_at_call 23; (with_reducible refine (with_any m1 K (-P) B (-Q) (-m) a1 cc1 _ HR1.out l1).mono ?_); rintro e w2 ⟨hbb, v, rfl, hown⟩; rw [← HM2.out] at hown; obtain ⟨a2, cc2, rfl, hrd⟩ := hown.rd; have HR2 := hid hrd; have hb := hb.step hbb; clear hown hrd hbb)
            | (go_at_call 24; (with_reducible refine (possible_any N m2 a2 cc2 _ HR2.out l2).mono ?_); rw [HP.out.2.2.1, HP.out.2.2.2]; rintro e w3 ⟨rfl, hbb⟩; have hb := hb.step hbb; clear hbb)))
        have HB := hid (HB.out.step hb)
        have HJ := hid (keepBox hb HJ.out)
        clear hb i0 i1 i2 i3 i4 u0 u1 u2 u3 u4 k0 k1 k2 k3 k4
        obtain ⟨i0, i1, i2, i3, i4⟩ := AMat.of (x := ⟨K, P, B, Q, m⟩) HJ.out
        simp only [Nat.zero_add] at i0 i1 i2 i3 i4
        cases F with
        | false =>
          go_wp2_with (first
            | (go_at_call 17; refine (sanity_any _).mono ?_; rintro e w1 ⟨rfl, hb⟩; have HB := hid (HB.out.step hb); have HJ := hid (keepBox hb HJ.out); obtain ⟨i0, i1, i2, i3, i4⟩ := AMat.of (x := ⟨K, P, B, Q, m⟩) HJ.out; simp only [Nat.zero_add] at i0 i1 i2 i3 i4; clear hb)
            | (go_at_call 40; (with_reducible refine (lawfits_any N l x a cap b cb _ (HL.out.below HB.out) hlen (HN.out.below HB.out) hxl).mono ?_); rw [← HV.out.2.2.2.2.1]; rintro e w9 ⟨rfl, hb⟩; have HB := hid (HB.out.step hb); have HJ := hid (keepBox hb HJ.out); obtain ⟨i0, i1, i2, i3, i4⟩ := AMat.of (x := ⟨K, P, B, Q, m⟩) HJ.out; simp only [Nat.zero_add] at i0 i1 i2 i3 i4; clear hb))
          go_ret
          exact ⟨rfl, HB.out⟩
        | true =>
          have hfj := HFT.out HV.out.2.2.2.2.1.symm
          have HFJ := hid hfj
          clear hfj
          go_wp2_with (first
            | (go_at_call 17; refine (sanity_any _).mono ?_; rintro e w1 ⟨rfl, hb⟩; have HB := hid (HB.out.step hb); have HJ := hid (keepBox hb HJ.out); obtain ⟨i0, i1, i2, i3, i4⟩ := AMat.of (x := ⟨K, P, B, Q, m⟩) HJ.out; simp only [Nat.zero_add] at i0 i1 i2 i3 i4; clear hb)
            | (go_at_call 40; (with_reducible refine (lawfits_any N l x a cap b cb _ (HL.out.below HB.out) hlen (HN.out.below HB.out) hxl).mono ?_); rw [← HV.out.2.2.2.2.1]; rintro e w9 ⟨rfl, hb⟩; have HB := hid (HB.out.step hb); have HJ := hid (keepBox hb HJ.out); obtain ⟨i0, i1, i2, i3, i4⟩ := AMat.of (x := ⟨K, P, B, Q, m⟩) HJ.out; simp only [Nat.zero_add] at i0 i1 i2 i3 i4; clear hb)
            | (go_at_call 40; refine (lawfits_any N [⟨K, P, B, Q, m⟩] x _ _ b cb _ (Rd.new _ [⟨K, P, B, Q, m⟩] (by simp)) (by simp) (HN.out.below (HB.out.step (bnew _ _))) hxl).mono ?_; rw [HFJ.out]; rintro e w9 ⟨rfl, hb⟩; have HB := hid (HB.out.step ((bnew _ _).step hb)); clear hb))
          go_ret
          exact ⟨rfl, HB.out⟩
      · have he : oppE N ⟨K, P, B, Q, m⟩ = 1 := by
          unfold oppE
          rw [if_neg]
          intro h
          exact ho (by unfold oppE; rw [if_pos h])
        have hv : (oppL N ⟨K, P, B, Q, m⟩).val = .agg #[.int .i64 0, .int .i64 0, .int .i64 0, .int .i64 0, .int .i64 0] := by
          unfold oppL
          rw [if_neg ho]
          rfl
        have HOV := hid (And.intro hv he)
        clear hv he ho
        go_upto_region 16 with (go_at_call 41; (with_reducible refine (oppose_any N K P B Q m _).mono ?_); rw [HOV.out.1, HOV.out.2]; rintro e w8 ⟨rfl, hb⟩; have HB := hid (HB.out.step hb); clear hb)
        have HB := hid (bmore HB.out (.cells #[.int .i64 0, .int .i64 0, .int .i64 0, .int .i64 0, .int .i64 0] 24))
        generalize w8.alloc (.cells #[.int .i64 0, .int .i64 0, .int .i64 0, .int .i64 0, .int .i64 0] 24) = W4 at *
        go_wp2_with (go_at_call 17; refine (sanity_any _).mono ?_; rintro e w1 ⟨rfl, hb⟩; have HB := hid (HB.out.step hb); clear hb)
        go_ret
        exact ⟨rfl, HB.out⟩

set_option maxRecDepth 100000 in
set_option maxHeartbeats 16000000 in
theorem greatest_any (n : Int) (l : List AM) (A P B Q M : Int) (x : List Int) (a : Option Addr) (cap : Nat) (b : Option Addr) (cb : Nat) (w : World) (hl : Rd w a l) (hlen : l.length ≤ 9223372036854775807) (hx : RdI w b x) (hxl : x.length ≤ 9223372036854775807) :
    Calls Try.prog 10 #[.int .i64 n, .slice a l.length cap, .agg #[.int .i64 A, .int .i64 P, .int .i64 B, .int .i64 Q, .int .i64 M], .slice b x.length cb] w (RetB (.bool true) w) := by
  have HL := hid hl; clear hl
  have HN := hid hx; clear hx
  have HB := hid (bnew w (.cells #[.int .i64 A, .int .i64 P, .int .i64 B, .int .i64 Q, .int .i64 M] 24))
  have HX : Hid ((w.alloc (.cells #[.int .i64 A, .int .i64 P, .int .i64 B, .int .i64 Q, .int .i64 M] 24)).heap[w.heap.size]? = some (.cells #[.int .i64 A, .int .i64 P, .int .i64 B, .int .i64 Q, .int .i64 M] 24 (0, 0))) := hid (by simp only [heap_alloc_if] <;> simp)
  obtain ⟨k0, k1, k2, k3, k4⟩ := AMat.of (x := ⟨A, P, B, Q, M⟩) HX.out
  simp only [Nat.zero_add] at k0 k1 k2 k3 k4
  by_cases h1 : lawRight n l = true
  · have H1 := hid h1
    by_cases h2 : 38 < l.length
    · have dl : decide (38 < (l.length : Int)) = true := by simp; omega
      clear h1
      go_enter Try.func10, Try.ntmps10
      go_wp2_with (first
        | (go_at_call 22; (with_reducible refine (lawright_any n l a cap _ (HL.out.below HB.out) hlen).mono ?_); rw [H1.out]; rintro e w1 ⟨rfl, hb⟩; have HB := hid (HB.out.step hb); have HX := hid (keepBox hb HX.out); obtain ⟨k0, k1, k2, k3, k4⟩ := AMat.of (x := ⟨A, P, B, Q, M⟩) HX.out; simp only [Nat.zero_add] at k0 k1 k2 k3 k4; clear hb)
        | (go_at_call 17; refine (sanity_any _).mono ?_; rintro e w1 ⟨rfl, hb⟩; have HB := hid (HB.out.step hb); have HX := hid (keepBox hb HX.out); obtain ⟨k0, k1, k2, k3, k4⟩ := AMat.of (x := ⟨A, P, B, Q, M⟩) HX.out; simp only [Nat.zero_add] at k0 k1 k2 k3 k4; clear hb))
      go_ret
      exact ⟨rfl, HB.out⟩
    · have dl : decide (38 < (l.length : Int)) = false := by simp; omega
      by_cases h4 : 20 < x.length
      · have dx : decide (20 < (x.length : Int)) = true := by simp; omega
        clear h1
        go_enter Try.func10, Try.ntmps10
        go_wp2_with (first
          | (go_at_call 22; (with_reducible refine (lawright_any n l a cap _ (HL.out.below HB.out) hlen).mono ?_); rw [H1.out]; rintro e w1 ⟨rfl, hb⟩; have HB := hid (HB.out.step hb); have HX := hid (keepBox hb HX.out); obtain ⟨k0, k1, k2, k3, k4⟩ := AMat.of (x := ⟨A, P, B, Q, M⟩) HX.out; simp only [Nat.zero_add] at k0 k1 k2 k3 k4; clear hb)
          | (go_at_call 17; refine (sanity_any _).mono ?_; rintro e w1 ⟨rfl, hb⟩; have HB := hid (HB.out.step hb); have HX := hid (keepBox hb HX.out); obtain ⟨k0, k1, k2, k3, k4⟩ := AMat.of (x := ⟨A, P, B, Q, M⟩) HX.out; simp only [Nat.zero_add] at k0 k1 k2 k3 k4; clear hb))
        go_ret
        exact ⟨rfl, HB.out⟩
      · have dx : decide (20 < (x.length : Int)) = false := by simp; omega
        by_cases h3 : lawRight n [⟨A, P, B, Q, M⟩] = true
        · obtain ⟨_, _, hg3, _⟩ := great_one (lawRight_one h1).2 (rights_single (lawRight_one h3).2)
          rcases hg3 with hc | hc | hc
          · by_cases q1 : mostV n l ⟨A, P, B, Q, M⟩ < -1000000
            · exact greatest_zlo n l A P B Q M x a cap b cb w HL.out hlen HN.out hxl h1 h2 h4 h3 hc q1
            · by_cases q2 : 1000000 ≤ mostV n l ⟨A, P, B, Q, M⟩
              · exact greatest_zhi n l A P B Q M x a cap b cb w HL.out hlen HN.out hxl h1 h2 h4 h3 hc q2
              · exact greatest_zin n l A P B Q M x a cap b cb w HL.out hlen HN.out hxl h1 h2 h4 h3 hc ⟨by omega, by omega⟩
          · exact greatest_5 n l A P B Q M x a cap b cb w HL.out hlen HN.out hxl h1 h2 h4 h3 hc rfl
          · exact greatest_10 n l A P B Q M x a cap b cb w HL.out hlen HN.out hxl h1 h2 h4 h3 hc rfl
        · have h3' : lawRight n [⟨A, P, B, Q, M⟩] = false := by simpa using h3
          have H3 := hid h3'
          clear h1 h3 h3'
          go_enter Try.func10, Try.ntmps10
          go_wp2_with (first
            | (go_at_call 22; (with_reducible refine (lawright_any n l a cap _ (HL.out.below HB.out) hlen).mono ?_); rw [H1.out]; rintro e w1 ⟨rfl, hb⟩; have HB := hid (HB.out.step hb); have HX := hid (keepBox hb HX.out); obtain ⟨k0, k1, k2, k3, k4⟩ := AMat.of (x := ⟨A, P, B, Q, M⟩) HX.out; simp only [Nat.zero_add] at k0 k1 k2 k3 k4; clear hb)
            | (go_at_call 22; refine (lawright_any n [⟨A, P, B, Q, M⟩] _ _ _ (Rd.new _ [⟨A, P, B, Q, M⟩] (by simp)) (by simp)).mono ?_; rw [H3.out]; rintro e w1 ⟨rfl, hb⟩; have hb := (bnew _ _).step hb; have HB := hid (HB.out.step hb); have HX := hid (keepBox hb HX.out); obtain ⟨k0, k1, k2, k3, k4⟩ := AMat.of (x := ⟨A, P, B, Q, M⟩) HX.out; simp only [Nat.zero_add] at k0 k1 k2 k3 k4; clear hb)
            | (go_at_call 17; refine (sanity_any _).mono ?_; rintro e w1 ⟨rfl, hb⟩; have HB := hid (HB.out.step hb); have HX := hid (keepBox hb HX.out); obtain ⟨k0, k1, k2, k3, k4⟩ := AMat.of (x := ⟨A, P, B, Q, M⟩) HX.out; simp only [Nat.zero_add] at k0 k1 k2 k3 k4; clear hb))
          go_ret
          exact ⟨rfl, HB.out⟩
  · have h1' : lawRight n l = false := by simpa using h1
    have H1 := hid h1'
    clear h1 h1'
    go_enter Try.func10, Try.ntmps10
    go_wp2_with (first
      | (go_at_call 22; (with_reducible refine (lawright_any n l a cap _ (HL.out.below HB.out) hlen).mono ?_); rw [H1.out]; rintro e w1 ⟨rfl, hb⟩; have HB := hid (HB.out.step hb); have HX := hid (keepBox hb HX.out); obtain ⟨k0, k1, k2, k3, k4⟩ := AMat.of (x := ⟨A, P, B, Q, M⟩) HX.out; simp only [Nat.zero_add] at k0 k1 k2 k3 k4; clear hb)
      | (go_at_call 17; refine (sanity_any _).mono ?_; rintro e w1 ⟨rfl, hb⟩; have HB := hid (HB.out.step hb); have HX := hid (keepBox hb HX.out); obtain ⟨k0, k1, k2, k3, k4⟩ := AMat.of (x := ⟨A, P, B, Q, M⟩) HX.out; simp only [Nat.zero_add] at k0 k1 k2 k3 k4; clear hb))
    go_ret
    exact ⟨rfl, HB.out⟩

open Go.ChangeShapes Go.WideShapes Go.ChangeAt Go.RowKit

set_option maxRecDepth 100000 in
set_option maxHeartbeats 1000000 in
theorem greatest_lifted (os : Os) (started : os.Started) (H : Type) (enc : TypeId × Value → H) :
    ReturnsInHanded {} Try.checked os 10 .any (Rows.proveGreatestSpec.pre6 enc Try.prog Try.f10 Rows.proveGreatestRow.domain false) (Rows.proveGreatestSpec.post enc Try.prog Try.f10 false true false false) := by
  refine returnsInHanded_of_change (C := Try.checked) Try.own started (by kernel_rfl) Try.func10
    (ChangeSpec.witness6 (enc := enc) (C := Try.checked) false ⟨#[], #[.int .i64 0, .slice none 0 0, .agg #[.int .i64 0, .int .i64 0, .int .i64 0, .int .i64 0, .int .i64 0], .slice none 0 0], []⟩ 8 (by kernel_rfl) (by kernel_rfl) (by kernel_rfl) (by kernel_rfl)) ?_
  intro W base args ds gs before hval0 hW hcnd _
  have hval : ∀ (j : Nat) t v, Try.f10.params[j]? = some t → args[j]? = some v → Value.okWide Try.prog W .any base t v := hval0
  have hW' := hW
  obtain ⟨p, q, hA0, hV, rfl, _, _⟩ := hW
  have hA : DataW.TrodAll enc Try.prog W 0 (fun _ => true) true Try.f10.params.toList args.toList ds p := hA0
  rw [Try.params10] at hA hval
  obtain ⟨args⟩ := args
  obtain ⟨v0, vs0, d0, ds0, p0, q0, rfl, rfl, rfl, h0, r0⟩ := trodAll_cons hA
  obtain ⟨v1, vs1, d1, ds1, p1, q1, rfl, rfl, rfl, h1, r1⟩ := trodAll_cons r0
  obtain ⟨v2, vs2, d2, ds2, p2, q2, rfl, rfl, rfl, h2, r2⟩ := trodAll_cons r1
  obtain ⟨v3, vs3, d3, ds3, p3, q3, rfl, rfl, rfl, h3, r3⟩ := trodAll_cons r2
  obtain ⟨rfl, rfl, rfl⟩ := trodAll_nil r3
  obtain ⟨rfl, rfl⟩ := trodVars_none hV
  obtain ⟨n, rfl, rfl, rfl, w0⟩ := open_int Try.underlying3 (hval 0 3 v0 rfl rfl) h0
  obtain ⟨l, sl1, c1, rfl, hr1, hl1⟩ := open_lines (hval 1 22 v1 rfl rfl) h1
  obtain ⟨b0, b1, b2, b3, b4, rfl⟩ := open_line (hval 2 24 v2 rfl rfl) h2
  obtain ⟨x, sl3, c3, rfl, hr3, hl3⟩ := open_nums (hval 3 46 v3 rfl rfl) h3
  have hlt : ∀ x ∈ [] ++ (p1 ++ (p2 ++ (p3 ++ []))), x.block < W.heap.size := fun x hx => hW'.lt x (by simpa using hx)
  refine (greatest_any n l b0 b1 b2 b3 b4 x sl1 c1 sl3 c3 W hr1 hl1 hr3 hl3).mono fun e W' ⟨he, hb⟩ => ?_
  subst he
  refine ⟨_, rfl, _, _, _, [], [] ++ (p1 ++ (p2 ++ (p3 ++ []))), [], hW', trodAll_mk1 (shut_bool Try.underlying4 true), ?_, rfl, hb.frame _, fun h => by cases h⟩
  exact (trodAll_cons_mk (stays read3 row3 h0 hb (fun x hx => by cases hx)) (trodAll_cons_mk (stays read22 row22 h1 hb (fun x hx => hlt x (by simp [hx]))) (trodAll_cons_mk (stays read24 row24 h2 hb (fun x hx => hlt x (by simp [hx]))) (trodAll_cons_mk (stays read46 row46 h3 hb (fun x hx => hlt x (by simp [hx]))) trodAll_mk0))))

theorem greatest_holds : Rows.ProveGreatestSaid :=
  OpenClaim.holds_of_wide 10 Try.f10 rfl rfl rfl rfl rfl rfl rfl ⟨rfl, rfl, rfl, rfl, rfl⟩ rfl rfl rfl rfl rfl (by kernel_rfl) Try.func10 (by kernel_rfl)
    (of_decide_eq_true (by kernel_rfl)) (by unfold Func.isWrapper; first | (rw [if_pos (by decide +kernel)]; kernel_rfl) | (rw [if_neg (by decide +kernel)]; exact ⟨rfl, rfl⟩))
    (fun os started H enc _ => greatest_lifted os started H enc)
#print axioms greatest_holds
end Go.Proofs.Ytnjbahiaelehkaa
