/- ProveFollows: the walk. For every input the law ProveFollows returns true, and each argument reads afterwards as it read before. No condition. -/
import Derived.Test.YtnjbahiaelehkaaE1
import Derived.Test.YtnjbahiaelehkaaD20
import Derived.Test.YtnjbahiaelehkaaD11
import Derived.Test.YtnjbahiaelehkaaA23
import Derived.Test.YtnjbahiaelehkaaL1
import Derived.OpenShut
import Derived.Test.YtnjbahiaelehkaaJ1
namespace Go.Proofs.Ytnjbahiaelehkaa
open Go.RowKit


theorem one_right {n : Int} {a : AM} (h : checkN n [a] = 0) : rightB n a = true := by
  obtain ⟨_, _, hr⟩ := checkN_in h
  unfold rightsB at hr
  simpa using hr
theorem follow_fit {n : Int} {l : List AM} {a : AM} {x : List Int} (ha : checkN n [a] = 0) (he : entB l a = true) (h : fitIs n l x = true) : fitIs n [a] x = true := by
  obtain ⟨_, hl, hall, hs⟩ := fitIs_iff.1 h
  refine fitIs_iff.2 ⟨ha, hl, hall, fun b hb => ?_⟩
  rw [List.mem_singleton.1 hb]
  exact entB_iff.1 he _ hs
theorem follow_opp {n : Int} {l : List AM} {a : AM} (hc : checkN n l = 0) (hl : l.length ≤ 39) (ho : oppE n a = 0) : checkN n (l ++ [opp a]) = 0 ∧ possV n (l ++ [opp a]) = !entB l a := by
  have hro : rightB n (opp a) = true := by
    unfold oppE at ho
    split at ho
    · rename_i h
      exact h.2.2
    · cases ho
  have c1 := check_more hc hl hro
  refine ⟨c1, ?_⟩
  have hn : ∀ x, lhs x (opp a) = -(lhs x a) := fun x => by
    show -a.P * x a.A.toNat + -a.Q * x a.B.toNat = -(a.P * x a.A.toNat + a.Q * x a.B.toNat)
    rw [Int.neg_mul, Int.neg_mul]
    omega
  unfold possV
  rw [if_pos c1, Bool.eq_iff_iff, Bool.not_eq_true', ← Bool.not_eq_true, entB_iff, possB_iff]
  constructor
  · rintro ⟨x, hx⟩ he
    obtain ⟨s1, s2⟩ := sat_more.1 hx
    have := he x s1
    rw [hn] at s2
    have : (opp a).M = -a.M - 1 := rfl
    omega
  · intro he
    by_cases h : ∃ x, Sat l x ∧ a.M < lhs x a
    · obtain ⟨x, hx, hlt⟩ := h
      refine ⟨x, sat_more.2 ⟨hx, ?_⟩⟩
      rw [hn]
      have : (opp a).M = -a.M - 1 := rfl
      omega
    · refine absurd (fun x hx => ?_) he
      by_cases h2 : lhs x a ≤ a.M
      · exact h2
      · exact absurd ⟨x, hx, by omega⟩ h
theorem prf_len {N : Nat} {l : List AM} {a : AM} {p : List Stp} (h : prfB N l a p = true) : p.length ≤ 400 := by
  unfold prfB sayS at h
  by_cases hl : 1 ≤ p.length ∧ p.length ≤ 400
  · exact hl.2
  · rw [if_neg hl] at h
    cases h
def prfC (n : Int) (l : List AM) (a : AM) (p : List Stp) : Int := if lineN n l a = 0 then (if prfB n.toNat l a p = true then 0 else 11) else lineN n l a
theorem checkprf_c (n : Int) (l : List AM) (A P B Q M : Int) (p : List Stp) (a b : Option Addr) (cap cap' : Nat) (w : World) (hl : Rd w a l) (hp : RdS w b p) (hll : l.length ≤ 1000000) (hpl : p.length ≤ 1000000) :
    Calls Try.prog 53 #[.int .i64 n, .slice a l.length cap, .agg #[.int .i64 A, .int .i64 P, .int .i64 B, .int .i64 Q, .int .i64 M], .slice b p.length cap'] w (RetB (.int .i64 (prfC n l ⟨A, P, B, Q, M⟩ p)) w) := checkprf_any n l A P B Q M p a b cap cap' w hl hp hll hpl

set_option maxRecDepth 100000 in
set_option maxHeartbeats 16000000 in
theorem follows_true (n : Int) (l : List AM) (A P B Q M : Int) (x : List Int) (p : List Stp) (a : Option Addr) (cap : Nat) (b : Option Addr) (cb : Nat) (c : Option Addr) (cc : Nat) (w : World) (hl : Rd w a l) (hlen : l.length ≤ 9223372036854775807) (hx : RdI w b x) (hxl : x.length ≤ 9223372036854775807) (hp : RdS w c p) (hpl : p.length ≤ 9223372036854775807) (h1 : lawRight n l = true) (h2 : ¬20 < x.length) (h4 : ¬400 < p.length) (h3 : lawRight n [⟨A, P, B, Q, M⟩] = true) (he : entB l ⟨A, P, B, Q, M⟩ = true) :
    Calls Try.prog 15 #[.int .i64 n, .slice a l.length cap, .agg #[.int .i64 A, .int .i64 P, .int .i64 B, .int .i64 Q, .int .i64 M], .slice b x.length cb, .slice c p.length cc] w (RetB (.bool true) w) := by
  have HL := hid hl; clear hl
  have HN := hid hx; clear hx
  have HS := hid hp; clear hp
  have HB := hid (bnew w (.cells #[.int .i64 A, .int .i64 P, .int .i64 B, .int .i64 Q, .int .i64 M] 24))
  have HX : Hid ((w.alloc (.cells #[.int .i64 A, .int .i64 P, .int .i64 B, .int .i64 Q, .int .i64 M] 24)).heap[w.heap.size]? = some (.cells #[.int .i64 A, .int .i64 P, .int .i64 B, .int .i64 Q, .int .i64 M] 24 (0, 0))) := hid (by simp only [heap_alloc_if] <;> simp)
  obtain ⟨k0, k1, k2, k3, k4⟩ := AMat.of (x := ⟨A, P, B, Q, M⟩) HX.out
  simp only [Nat.zero_add] at k0 k1 k2 k3 k4
  have dx : decide (20 < (x.length : Int)) = false := by simp; omega
  have dp : decide (400 < (p.length : Int)) = false := by simp; omega
  have H1 := hid h1
  have H3 := hid h3
  obtain ⟨hl40, hck⟩ := lawRight_one h1
  have hc1 := (lawRight_one h3).2
  have hra := one_right hc1
  obtain ⟨⟨hn1, hn2⟩, _, hrs⟩ := checkN_in hck
  obtain ⟨N, rfl⟩ : ∃ N : Nat, n = (N : Int) := ⟨n.toNat, by omega⟩
  have hN : N ≤ 12 := by omega
  have hln := lineN_of hck hra
  have hev : entV N l ⟨A, P, B, Q, M⟩ = true := by unfold entV; rw [if_pos hln, he]
  have hT : prfC N l ⟨A, P, B, Q, M⟩ p = 0 ∨ prfC N l ⟨A, P, B, Q, M⟩ p = 11 := by
    unfold prfC
    rw [if_pos hln]
    split
    · exact .inl rfl
    · exact .inr rfl
  obtain ⟨T, hTT⟩ : ∃ q, q = prfC N l ⟨A, P, B, Q, M⟩ p := ⟨_, rfl⟩
  rw [← hTT] at hT
  obtain ⟨F, hF⟩ : ∃ q, q = fitIs N l x := ⟨_, rfl⟩
  have hG : F = true → fitIs N [⟨A, P, B, Q, M⟩] x = true := fun h => follow_fit hc1 he (by rw [← hF]; exact h)
  have HGF := hid hG
  clear hG
  have HV := hid (And.intro hev (And.intro hTT hF))
  have HC := hid (And.intro hck (And.intro hra hln))
  have HE := hid he
  clear h1 h3 hck hra hln hc1 hrs hev hTT hF he
  go_enter Try.func15, Try.ntmps15
  go_upto_region 3 with (first
    | (go_at_call 22; (with_reducible refine (lawright_any N l a cap _ (HL.out.below HB.out) hlen).mono ?_); rw [H1.out]; rintro e w1 ⟨rfl, hb⟩; have HB := hid (HB.out.step hb); have HX := hid (keepBox hb HX.out); obtain ⟨k0, k1, k2, k3, k4⟩ := AMat.of (x := ⟨A, P, B, Q, M⟩) HX.out; simp only [Nat.zero_add] at k0 k1 k2 k3 k4; clear hb)
    | (go_at_call 22; refine (lawright_any N [⟨A, P, B, Q, M⟩] _ _ _ (Rd.new _ [⟨A, P, B, Q, M⟩] (by simp)) (by simp)).mono ?_; rw [H3.out]; rintro e w1 ⟨rfl, hb⟩; have hb := (bnew _ _).step hb; have HB := hid (HB.out.step hb); have HX := hid (keepBox hb HX.out); obtain ⟨k0, k1, k2, k3, k4⟩ := AMat.of (x := ⟨A, P, B, Q, M⟩) HX.out; simp only [Nat.zero_add] at k0 k1 k2 k3 k4; clear hb))
  go_upto_region 4 with (go_at_call 25; (with_reducible refine (entails_any N l A P B Q M a cap _ (HL.out.below HB.out) (by omega)).mono ?_); rw [HV.out.1, HC.out.2.2]; rintro e w1 ⟨rfl, hb⟩; have HB := hid (HB.out.step hb); have HX := hid (keepBox hb HX.out); obtain ⟨k0, k1, k2, k3, k4⟩ := AMat.of (x := ⟨A, P, B, Q, M⟩) HX.out; simp only [Nat.zero_add] at k0 k1 k2 k3 k4; clear hb)
  go_upto_region 5 with (go_at_call 34; (with_reducible refine (prove_any N l A P B Q M a cap _ (HL.out.below HB.out) (by omega)).mono ?_); rw [HV.out.1, HC.out.2.2]; rintro e w1 ⟨hb, S, v, rfl, hown, hg1, hg2⟩; have HOW := hid hown; have HG := hid (And.intro hg1 hg2); clear hown hg1 hg2; have HB := hid (HB.out.step hb); have HX := hid (keepBox hb HX.out); obtain ⟨k0, k1, k2, k3, k4⟩ := AMat.of (x := ⟨A, P, B, Q, M⟩) HX.out; simp only [Nat.zero_add] at k0 k1 k2 k3 k4; clear hb)
  have hg := HG.out.1 (by first | rfl | trivial) N
  have hpf : prfC N l ⟨A, P, B, Q, M⟩ S = 0 := by unfold prfC; rw [if_pos HC.out.2.2, Int.toNat_natCast, if_pos hg]
  have hsl := prf_len hg
  have HPF := hid hpf
  obtain ⟨a10, c10, hv10, hr10⟩ := HOW.out.rd
  subst hv10
  have HZ := hid hr10
  clear hr10 HOW hg hpf
  go_upto_region 7 with (go_at_call 53; (with_reducible refine (checkprf_c N l A P B Q M S a a10 cap c10 _ (HL.out.below HB.out) HZ.out (by omega) (by omega)).mono ?_); rw [HPF.out]; rintro e w1 ⟨rfl, hb⟩; have HB := hid (HB.out.step hb); have HX := hid (keepBox hb HX.out); obtain ⟨k0, k1, k2, k3, k4⟩ := AMat.of (x := ⟨A, P, B, Q, M⟩) HX.out; simp only [Nat.zero_add] at k0 k1 k2 k3 k4; clear hb)
  go_upto_region 8 with (go_at_call 53; (with_reducible refine (checkprf_c N l A P B Q M p a c cap cc _ (HL.out.below HB.out) (HS.out.below HB.out) (by omega) (by omega)).mono ?_); rw [← HV.out.2.1]; rintro e w1 ⟨rfl, hb⟩; have HB := hid (HB.out.step hb); have HX := hid (keepBox hb HX.out); obtain ⟨k0, k1, k2, k3, k4⟩ := AMat.of (x := ⟨A, P, B, Q, M⟩) HX.out; simp only [Nat.zero_add] at k0 k1 k2 k3 k4; clear hb)
  generalize hW9 : w1 = W9 at *
  clear hW9
  go_cut [107] (fun s wx => s = .bool false ∧ Below W9.heap.size W9 wx)
  case first =>
    cases F with
    | false =>
      rcases hT with rfl | rfl
      all_goals
        go_wp2_with (go_at_call 40; (with_reducible refine (lawfits_any N l x a cap b cb _ (HL.out.below HB.out) hlen (HN.out.below HB.out) hxl).mono ?_); rw [← HV.out.2.2]; rintro e w9 ⟨rfl, hb⟩; have HD := hid hb; obtain ⟨k0, k1, k2, k3, k4⟩ := AMat.of (x := ⟨A, P, B, Q, M⟩) (keepBox hb HX.out); simp only [Nat.zero_add] at k0 k1 k2 k3 k4; clear hb)
        go_meet
        exact ⟨rfl, HD.out⟩
    | true =>
      have HGT : Hid (fitIs N [⟨A, P, B, Q, M⟩] x = true) := hid (HGF.out (by first | rfl | trivial))
      rcases hT with rfl | rfl
      all_goals
        go_wp2_with (first
          | (go_at_call 40; (with_reducible refine (lawfits_any N l x a cap b cb _ (HL.out.below HB.out) hlen (HN.out.below HB.out) hxl).mono ?_); rw [← HV.out.2.2]; rintro e w9 ⟨rfl, hb⟩; have HD := hid hb; obtain ⟨k0, k1, k2, k3, k4⟩ := AMat.of (x := ⟨A, P, B, Q, M⟩) (keepBox hb HX.out); simp only [Nat.zero_add] at k0 k1 k2 k3 k4; clear hb)
          | (go_at_call 40; refine (lawfits_any N [⟨A, P, B, Q, M⟩] x _ _ b cb _ (Rd.new _ [⟨A, P, B, Q, M⟩] (by simp)) (by simp) (HN.out.below ((HB.out.step HD.out).step (bnew _ _))) hxl).mono ?_; rw [HGT.out]; rintro e w8 ⟨rfl, hb⟩; have HD := hid (HD.out.step ((bnew _ _).step hb)); clear hb))
        go_meet
        exact ⟨rfl, HD.out⟩
  case rest =>
    obtain ⟨rfl, hb⟩ := hcut
    have HB := hid (HB.out.step hb); have HX := hid (keepBox hb HX.out); obtain ⟨k0, k1, k2, k3, k4⟩ := AMat.of (x := ⟨A, P, B, Q, M⟩) HX.out; simp only [Nat.zero_add] at k0 k1 k2 k3 k4; clear hb
    obtain ⟨oe, hoe⟩ : ∃ q, q = oppE N ⟨A, P, B, Q, M⟩ := ⟨_, rfl⟩
    by_cases ho : oe = 0
    · have hv : (oppL N ⟨A, P, B, Q, M⟩).val = .agg #[.int .i64 A, .int .i64 (-P), .int .i64 B, .int .i64 (-Q), .int .i64 (-M - 1)] := by
        unfold oppL
        rw [if_pos (by rw [← hoe]; exact ho)]
        rfl
      have ho' : oppE N ⟨A, P, B, Q, M⟩ = 0 := by rw [← hoe]; exact ho
      have HOV := hid (And.intro hv ho')
      clear hv hoe
      go_upto_region 11 with (go_at_call 41; (with_reducible refine (oppose_any N A P B Q M _).mono ?_); rw [HOV.out.1, HOV.out.2]; rintro e w8 ⟨rfl, hb⟩; have HB := hid (HB.out.step hb); clear hb)
      have HB := hid (bmore HB.out (.cells #[.int .i64 A, .int .i64 (-P), .int .i64 B, .int .i64 (-Q), .int .i64 (-M - 1)] 24))
      have HO : Hid ((w8.alloc (.cells #[.int .i64 A, .int .i64 (-P), .int .i64 B, .int .i64 (-Q), .int .i64 (-M - 1)] 24)).heap[w8.heap.size]? = some (.cells #[.int .i64 A, .int .i64 (-P), .int .i64 B, .int .i64 (-Q), .int .i64 (-M - 1)] 24 (0, 0))) := hid (by simp only [heap_alloc_if] <;> simp)
      generalize w8.alloc (.cells #[.int .i64 A, .int .i64 (-P), .int .i64 B, .int .i64 (-Q), .int .i64 (-M - 1)] 24) = W4 at *
      generalize w8.heap.size = j2 at *
      obtain ⟨⟨o0, o1, o2, o3, o4⟩, _, _, _, _, _⟩ := box5 HO.out
      clear ho k0 k1 k2 k3 k4
      by_cases h40 : l.length = 40
      · have d40 : ((l.length : Int) == 40) = true := by simp [h40]
        go_wp2_with (go_at_call 17; refine (sanity_any _).mono ?_; rintro e w1 ⟨rfl, hb⟩; have HB := hid (HB.out.step hb); clear hb)
        go_ret
        exact ⟨rfl, HB.out⟩
      · have d40 : ((l.length : Int) == 40) = false := by simp; omega
        obtain ⟨mo, hmo⟩ : ∃ q, q = l ++ [(⟨A, -P, B, -Q, -M - 1⟩ : AM)] := ⟨_, rfl⟩
        have hfo := follow_opp HC.out.1 (by omega) ho'
        have c1' : checkN N mo = 0 := by rw [hmo]; exact hfo.1
        have p1' : possV N mo = false := by rw [hmo]; exact hfo.2.trans (by rw [HE.out]; rfl)
        have l0 : mo.length ≤ 1000000 := by rw [hmo, List.length_append, List.length_singleton]; omega
        have HMO := hid hmo
        have HP := hid (And.intro c1' p1')
        clear hmo hfo c1' p1' ho'
        go_upto_region 14 with (first
          | (go_at_call 23; (with_reducible refine (with_any l A (-P) B (-Q) (-M - 1) a cap _ (HL.out.below HB.out) (by omega)).mono ?_); rintro e w1 ⟨hb, v, rfl, hown⟩; rw [← HMO.out] at hown; obtain ⟨ao, co, rfl, hrd⟩ := hown.rd; have HRO := hid hrd; have HB := hid (HB.out.step hb); clear hown hrd hb)
          | (go_at_call 24; (with_reducible refine (possible_any N mo ao co _ HRO.out l0).mono ?_); rw [HP.out.1, HP.out.2]; rintro e w8 ⟨rfl, hb⟩; have HB := hid (HB.out.step hb); clear hb))
        go_wp2_with (go_at_call 17; refine (sanity_any _).mono ?_; rintro e w1 ⟨rfl, hb⟩; have HB := hid (HB.out.step hb); clear hb)
        go_ret
        exact ⟨rfl, HB.out⟩
    · have h1o : oe = 1 := by
        rw [hoe] at ho ⊢
        unfold oppE
        rw [if_neg]
        intro h
        exact ho (by unfold oppE; rw [if_pos h])
      subst h1o
      have hv : (oppL N ⟨A, P, B, Q, M⟩).val = .agg #[.int .i64 0, .int .i64 0, .int .i64 0, .int .i64 0, .int .i64 0] := by
        unfold oppL
        rw [if_neg (by rw [← hoe]; exact ho)]
        rfl
      have HOV := hid (And.intro hv hoe.symm)
      clear hv hoe ho
      go_upto_region 11 with (go_at_call 41; (with_reducible refine (oppose_any N A P B Q M _).mono ?_); rw [HOV.out.1, HOV.out.2]; rintro e w8 ⟨rfl, hb⟩; have HB := hid (HB.out.step hb); clear hb)
      have HB := hid (bmore HB.out (.cells #[.int .i64 0, .int .i64 0, .int .i64 0, .int .i64 0, .int .i64 0] 24))
      generalize w8.alloc (.cells #[.int .i64 0, .int .i64 0, .int .i64 0, .int .i64 0, .int .i64 0] 24) = W4 at *
      go_wp2_with (go_at_call 17; refine (sanity_any _).mono ?_; rintro e w1 ⟨rfl, hb⟩; have HB := hid (HB.out.step hb); clear hb)
      go_ret
      exact ⟨rfl, HB.out⟩

set_option maxRecDepth 100000 in
set_option maxHeartbeats 16000000 in
theorem follows_false (n : Int) (l : List AM) (A P B Q M : Int) (x : List Int) (p : List Stp) (a : Option Addr) (cap : Nat) (b : Option Addr) (cb : Nat) (c : Option Addr) (cc : Nat) (w : World) (hl : Rd w a l) (hlen : l.length ≤ 9223372036854775807) (hx : RdI w b x) (hxl : x.length ≤ 9223372036854775807) (hp : RdS w c p) (hpl : p.length ≤ 9223372036854775807) (h1 : lawRight n l = true) (h2 : ¬20 < x.length) (h4 : ¬400 < p.length) (h3 : lawRight n [⟨A, P, B, Q, M⟩] = true) (he : entB l ⟨A, P, B, Q, M⟩ = false) :
    Calls Try.prog 15 #[.int .i64 n, .slice a l.length cap, .agg #[.int .i64 A, .int .i64 P, .int .i64 B, .int .i64 Q, .int .i64 M], .slice b x.length cb, .slice c p.length cc] w (RetB (.bool true) w) := by
  have HL := hid hl; clear hl
  have HN := hid hx; clear hx
  have HS := hid hp; clear hp
  have HB := hid (bnew w (.cells #[.int .i64 A, .int .i64 P, .int .i64 B, .int .i64 Q, .int .i64 M] 24))
  have HX : Hid ((w.alloc (.cells #[.int .i64 A, .int .i64 P, .int .i64 B, .int .i64 Q, .int .i64 M] 24)).heap[w.heap.size]? = some (.cells #[.int .i64 A, .int .i64 P, .int .i64 B, .int .i64 Q, .int .i64 M] 24 (0, 0))) := hid (by simp only [heap_alloc_if] <;> simp)
  obtain ⟨k0, k1, k2, k3, k4⟩ := AMat.of (x := ⟨A, P, B, Q, M⟩) HX.out
  simp only [Nat.zero_add] at k0 k1 k2 k3 k4
  have dx : decide (20 < (x.length : Int)) = false := by simp; omega
  have dp : decide (400 < (p.length : Int)) = false := by simp; omega
  have H1 := hid h1
  have H3 := hid h3
  obtain ⟨hl40, hck⟩ := lawRight_one h1
  have hc1 := (lawRight_one h3).2
  have hra := one_right hc1
  obtain ⟨⟨hn1, hn2⟩, _, hrs⟩ := checkN_in hck
  obtain ⟨N, rfl⟩ : ∃ N : Nat, n = (N : Int) := ⟨n.toNat, by omega⟩
  have hN : N ≤ 12 := by omega
  have hln := lineN_of hck hra
  have hev : entV N l ⟨A, P, B, Q, M⟩ = false := by unfold entV; rw [if_pos hln, he]
  have hT : prfC N l ⟨A, P, B, Q, M⟩ p = 0 ∨ prfC N l ⟨A, P, B, Q, M⟩ p = 11 := by
    unfold prfC
    rw [if_pos hln]
    split
    · exact .inl rfl
    · exact .inr rfl
  have hTB : prfC N l ⟨A, P, B, Q, M⟩ p = 11 := by
    unfold prfC
    rw [if_pos hln, Int.toNat_natCast, if_neg]
    intro h
    have := prfB_sound (rights_ok hrs) (Nat.le_refl N) (right_ok hra) h
    rw [he] at this
    cases this
  clear hT
  obtain ⟨T, hTT⟩ : ∃ q, q = prfC N l ⟨A, P, B, Q, M⟩ p := ⟨_, rfl⟩
  rw [← hTT] at hTB
  subst hTB
  obtain ⟨F, hF⟩ : ∃ q, q = fitIs N l x := ⟨_, rfl⟩
  have HV := hid (And.intro hev (And.intro hTT hF))
  have HC := hid (And.intro hck (And.intro hra hln))
  have HE := hid he
  clear h1 h3 hck hra hln hc1 hrs hev hTT hF he
  go_enter Try.func15, Try.ntmps15
  go_upto_region 3 with (first
    | (go_at_call 22; (with_reducible refine (lawright_any N l a cap _ (HL.out.below HB.out) hlen).mono ?_); rw [H1.out]; rintro e w1 ⟨rfl, hb⟩; have HB := hid (HB.out.step hb); have HX := hid (keepBox hb HX.out); obtain ⟨k0, k1, k2, k3, k4⟩ := AMat.of (x := ⟨A, P, B, Q, M⟩) HX.out; simp only [Nat.zero_add] at k0 k1 k2 k3 k4; clear hb)
    | (go_at_call 22; refine (lawright_any N [⟨A, P, B, Q, M⟩] _ _ _ (Rd.new _ [⟨A, P, B, Q, M⟩] (by simp)) (by simp)).mono ?_; rw [H3.out]; rintro e w1 ⟨rfl, hb⟩; have hb := (bnew _ _).step hb; have HB := hid (HB.out.step hb); have HX := hid (keepBox hb HX.out); obtain ⟨k0, k1, k2, k3, k4⟩ := AMat.of (x := ⟨A, P, B, Q, M⟩) HX.out; simp only [Nat.zero_add] at k0 k1 k2 k3 k4; clear hb))
  go_upto_region 4 with (go_at_call 25; (with_reducible refine (entails_any N l A P B Q M a cap _ (HL.out.below HB.out) (by omega)).mono ?_); rw [HV.out.1, HC.out.2.2]; rintro e w1 ⟨rfl, hb⟩; have HB := hid (HB.out.step hb); have HX := hid (keepBox hb HX.out); obtain ⟨k0, k1, k2, k3, k4⟩ := AMat.of (x := ⟨A, P, B, Q, M⟩) HX.out; simp only [Nat.zero_add] at k0 k1 k2 k3 k4; clear hb)
  go_upto_region 5 with (go_at_call 34; (with_reducible refine (prove_any N l A P B Q M a cap _ (HL.out.below HB.out) (by omega)).mono ?_); rw [HV.out.1, HC.out.2.2]; rintro e w1 ⟨hb, S, v, rfl, hown, hg1, hg2⟩; have HOW := hid hown; clear hown hg1 hg2; have HB := hid (HB.out.step hb); have HX := hid (keepBox hb HX.out); obtain ⟨k0, k1, k2, k3, k4⟩ := AMat.of (x := ⟨A, P, B, Q, M⟩) HX.out; simp only [Nat.zero_add] at k0 k1 k2 k3 k4; clear hb)
  obtain ⟨a10, c10, hv10, hr10⟩ := HOW.out.rd
  subst hv10
  clear hr10 HOW
  go_upto_region 8 with (go_at_call 53; (with_reducible refine (checkprf_c N l A P B Q M p a c cap cc _ (HL.out.below HB.out) (HS.out.below HB.out) (by omega) (by omega)).mono ?_); rw [← HV.out.2.1]; rintro e w1 ⟨rfl, hb⟩; have HB := hid (HB.out.step hb); have HX := hid (keepBox hb HX.out); obtain ⟨k0, k1, k2, k3, k4⟩ := AMat.of (x := ⟨A, P, B, Q, M⟩) HX.out; simp only [Nat.zero_add] at k0 k1 k2 k3 k4; clear hb)
  obtain ⟨oe, hoe⟩ : ∃ q, q = oppE N ⟨A, P, B, Q, M⟩ := ⟨_, rfl⟩
  by_cases ho : oe = 0
  · have hv : (oppL N ⟨A, P, B, Q, M⟩).val = .agg #[.int .i64 A, .int .i64 (-P), .int .i64 B, .int .i64 (-Q), .int .i64 (-M - 1)] := by
      unfold oppL
      rw [if_pos (by rw [← hoe]; exact ho)]
      rfl
    have ho' : oppE N ⟨A, P, B, Q, M⟩ = 0 := by rw [← hoe]; exact ho
    have HOV := hid (And.intro hv ho')
    clear hv hoe
    go_upto_region 11 with (go_at_call 41; (with_reducible refine (oppose_any N A P B Q M _).mono ?_); rw [HOV.out.1, HOV.out.2]; rintro e w8 ⟨rfl, hb⟩; have HB := hid (HB.out.step hb); clear hb)
    have HB := hid (bmore HB.out (.cells #[.int .i64 A, .int .i64 (-P), .int .i64 B, .int .i64 (-Q), .int .i64 (-M - 1)] 24))
    have HO : Hid ((w8.alloc (.cells #[.int .i64 A, .int .i64 (-P), .int .i64 B, .int .i64 (-Q), .int .i64 (-M - 1)] 24)).heap[w8.heap.size]? = some (.cells #[.int .i64 A, .int .i64 (-P), .int .i64 B, .int .i64 (-Q), .int .i64 (-M - 1)] 24 (0, 0))) := hid (by simp only [heap_alloc_if] <;> simp)
    generalize w8.alloc (.cells #[.int .i64 A, .int .i64 (-P), .int .i64 B, .int .i64 (-Q), .int .i64 (-M - 1)] 24) = W4 at *
    generalize w8.heap.size = j2 at *
    obtain ⟨⟨o0, o1, o2, o3, o4⟩, _, _, _, _, _⟩ := box5 HO.out
    clear ho k0 k1 k2 k3 k4
    by_cases h40 : l.length = 40
    · have d40 : ((l.length : Int) == 40) = true := by simp [h40]
      go_wp2_with (go_at_call 17; refine (sanity_any _).mono ?_; rintro e w1 ⟨rfl, hb⟩; have HB := hid (HB.out.step hb); clear hb)
      go_ret
      exact ⟨rfl, HB.out⟩
    · have d40 : ((l.length : Int) == 40) = false := by simp; omega
      obtain ⟨mo, hmo⟩ : ∃ q, q = l ++ [(⟨A, -P, B, -Q, -M - 1⟩ : AM)] := ⟨_, rfl⟩
      have hfo := follow_opp HC.out.1 (by omega) ho'
      have c1' : checkN N mo = 0 := by rw [hmo]; exact hfo.1
      have p1' : possV N mo = true := by rw [hmo]; exact hfo.2.trans (by rw [HE.out]; rfl)
      have l0 : mo.length ≤ 1000000 := by rw [hmo, List.length_append, List.length_singleton]; omega
      have HMO := hid hmo
      have HP := hid (And.intro c1' p1')
      clear hmo hfo c1' p1' ho'
      go_upto_region 14 with (first
        | (go_at_call 23; (with_reducible refine (with_any l A (-P) B (-Q) (-M - 1) a cap _ (HL.out.below HB.out) (by omega)).mono ?_); rintro e w1 ⟨hb, v, rfl, hown⟩; rw [← HMO.out] at hown; obtain ⟨ao, co, rfl, hrd⟩ := hown.rd; have HRO := hid hrd; have HB := hid (HB.out.step hb); clear hown hrd hb)
        | (go_at_call 24; (with_reducible refine (possible_any N mo ao co _ HRO.out l0).mono ?_); rw [HP.out.1, HP.out.2]; rintro e w8 ⟨rfl, hb⟩; have HB := hid (HB.out.step hb); clear hb))
      go_wp2_with (go_at_call 17; refine (sanity_any _).mono ?_; rintro e w1 ⟨rfl, hb⟩; have HB := hid (HB.out.step hb); clear hb)
      go_ret
      exact ⟨rfl, HB.out⟩
  · have h1o : oe = 1 := by
      rw [hoe] at ho ⊢
      unfold oppE
      rw [if_neg]
      intro h
      exact ho (by unfold oppE; rw [if_pos h])
    subst h1o
    have hv : (oppL N ⟨A, P, B, Q, M⟩).val = .agg #[.int .i64 0, .int .i64 0, .int .i64 0, .int .i64 0, .int .i64 0] := by
      unfold oppL
      rw [if_neg (by rw [← hoe]; exact ho)]
      rfl
    have HOV := hid (And.intro hv hoe.symm)
    clear hv hoe ho
    go_upto_region 11 with (go_at_call 41; (with_reducible refine (oppose_any N A P B Q M _).mono ?_); rw [HOV.out.1, HOV.out.2]; rintro e w8 ⟨rfl, hb⟩; have HB := hid (HB.out.step hb); clear hb)
    have HB := hid (bmore HB.out (.cells #[.int .i64 0, .int .i64 0, .int .i64 0, .int .i64 0, .int .i64 0] 24))
    generalize w8.alloc (.cells #[.int .i64 0, .int .i64 0, .int .i64 0, .int .i64 0, .int .i64 0] 24) = W4 at *
    go_wp2_with (go_at_call 17; refine (sanity_any _).mono ?_; rintro e w1 ⟨rfl, hb⟩; have HB := hid (HB.out.step hb); clear hb)
    go_ret
    exact ⟨rfl, HB.out⟩

set_option maxRecDepth 100000 in
set_option maxHeartbeats 16000000 in
theorem follows_any (n : Int) (l : List AM) (A P B Q M : Int) (x : List Int) (p : List Stp) (a : Option Addr) (cap : Nat) (b : Option Addr) (cb : Nat) (c : Option Addr) (cc : Nat) (w : World) (hl : Rd w a l) (hlen : l.length ≤ 9223372036854775807) (hx : RdI w b x) (hxl : x.length ≤ 9223372036854775807) (hp : RdS w c p) (hpl : p.length ≤ 9223372036854775807) :
    Calls Try.prog 15 #[.int .i64 n, .slice a l.length cap, .agg #[.int .i64 A, .int .i64 P, .int .i64 B, .int .i64 Q, .int .i64 M], .slice b x.length cb, .slice c p.length cc] w (RetB (.bool true) w) := by
  have HL := hid hl; clear hl
  have HN := hid hx; clear hx
  have HS := hid hp; clear hp
  have HB := hid (bnew w (.cells #[.int .i64 A, .int .i64 P, .int .i64 B, .int .i64 Q, .int .i64 M] 24))
  have HX : Hid ((w.alloc (.cells #[.int .i64 A, .int .i64 P, .int .i64 B, .int .i64 Q, .int .i64 M] 24)).heap[w.heap.size]? = some (.cells #[.int .i64 A, .int .i64 P, .int .i64 B, .int .i64 Q, .int .i64 M] 24 (0, 0))) := hid (by simp only [heap_alloc_if] <;> simp)
  obtain ⟨k0, k1, k2, k3, k4⟩ := AMat.of (x := ⟨A, P, B, Q, M⟩) HX.out
  simp only [Nat.zero_add] at k0 k1 k2 k3 k4
  by_cases h1 : lawRight n l = true
  · have H1 := hid h1
    by_cases h2 : 20 < x.length
    · have dx : decide (20 < (x.length : Int)) = true := by simp; omega
      clear h1
      go_enter Try.func15, Try.ntmps15
      go_wp2_with (first
        | (go_at_call 22; (with_reducible refine (lawright_any n l a cap _ (HL.out.below HB.out) hlen).mono ?_); rw [H1.out]; rintro e w1 ⟨rfl, hb⟩; have HB := hid (HB.out.step hb); have HX := hid (keepBox hb HX.out); obtain ⟨k0, k1, k2, k3, k4⟩ := AMat.of (x := ⟨A, P, B, Q, M⟩) HX.out; simp only [Nat.zero_add] at k0 k1 k2 k3 k4; clear hb)
        | (go_at_call 17; refine (sanity_any _).mono ?_; rintro e w1 ⟨rfl, hb⟩; have HB := hid (HB.out.step hb); have HX := hid (keepBox hb HX.out); obtain ⟨k0, k1, k2, k3, k4⟩ := AMat.of (x := ⟨A, P, B, Q, M⟩) HX.out; simp only [Nat.zero_add] at k0 k1 k2 k3 k4; clear hb))
      go_ret
      exact ⟨rfl, HB.out⟩
    · have dx : decide (20 < (x.length : Int)) = false := by simp; omega
      by_cases h4 : 400 < p.length
      · have dp : decide (400 < (p.length : Int)) = true := by simp; omega
        clear h1
        go_enter Try.func15, Try.ntmps15
        go_wp2_with (first
          | (go_at_call 22; (with_reducible refine (lawright_any n l a cap _ (HL.out.below HB.out) hlen).mono ?_); rw [H1.out]; rintro e w1 ⟨rfl, hb⟩; have HB := hid (HB.out.step hb); have HX := hid (keepBox hb HX.out); obtain ⟨k0, k1, k2, k3, k4⟩ := AMat.of (x := ⟨A, P, B, Q, M⟩) HX.out; simp only [Nat.zero_add] at k0 k1 k2 k3 k4; clear hb)
          | (go_at_call 17; refine (sanity_any _).mono ?_; rintro e w1 ⟨rfl, hb⟩; have HB := hid (HB.out.step hb); have HX := hid (keepBox hb HX.out); obtain ⟨k0, k1, k2, k3, k4⟩ := AMat.of (x := ⟨A, P, B, Q, M⟩) HX.out; simp only [Nat.zero_add] at k0 k1 k2 k3 k4; clear hb))
        go_ret
        exact ⟨rfl, HB.out⟩
      · have dp : decide (400 < (p.length : Int)) = false := by simp; omega
        by_cases h3 : lawRight n [⟨A, P, B, Q, M⟩] = true
        · cases he : entB l ⟨A, P, B, Q, M⟩ with
          | true => exact follows_true n l A P B Q M x p a cap b cb c cc w HL.out hlen HN.out hxl HS.out hpl h1 h2 h4 h3 he
          | false => exact follows_false n l A P B Q M x p a cap b cb c cc w HL.out hlen HN.out hxl HS.out hpl h1 h2 h4 h3 he
        · have h3' : lawRight n [⟨A, P, B, Q, M⟩] = false := by simpa using h3
          have H3 := hid h3'
          clear h1 h3 h3'
          go_enter Try.func15, Try.ntmps15
          go_wp2_with (first
            | (go_at_call 22; (with_reducible refine (lawright_any n l a cap _ (HL.out.below HB.out) hlen).mono ?_); rw [H1.out]; rintro e w1 ⟨rfl, hb⟩; have HB := hid (HB.out.step hb); have HX := hid (keepBox hb HX.out); obtain ⟨k0, k1, k2, k3, k4⟩ := AMat.of (x := ⟨A, P, B, Q, M⟩) HX.out; simp only [Nat.zero_add] at k0 k1 k2 k3 k4; clear hb)
            | (go_at_call 22; refine (lawright_any n [⟨A, P, B, Q, M⟩] _ _ _ (Rd.new _ [⟨A, P, B, Q, M⟩] (by simp)) (by simp)).mono ?_; rw [H3.out]; rintro e w1 ⟨rfl, hb⟩; have hb := (bnew _ _).step hb; have HB := hid (HB.out.step hb); have HX := hid (keepBox hb HX.out); obtain ⟨k0, k1, k2, k3, k4⟩ := AMat.of (x := ⟨A, P, B, Q, M⟩) HX.out; simp only [Nat.zero_add] at k0 k1 k2 k3 k4; clear hb)
            | (go_at_call 17; refine (sanity_any _).mono ?_; rintro e w1 ⟨rfl, hb⟩; have HB := hid (HB.out.step hb); have HX := hid (keepBox hb HX.out); obtain ⟨k0, k1, k2, k3, k4⟩ := AMat.of (x := ⟨A, P, B, Q, M⟩) HX.out; simp only [Nat.zero_add] at k0 k1 k2 k3 k4; clear hb))
          go_ret
          exact ⟨rfl, HB.out⟩
  · have h1' : lawRight n l = false := by simpa using h1
    have H1 := hid h1'
    clear h1 h1'
    go_enter Try.func15, Try.ntmps15
    go_wp2_with (first
      | (go_at_call 22; (with_reducible refine (lawright_any n l a cap _ (HL.out.below HB.out) hlen).mono ?_); rw [H1.out]; rintro e w1 ⟨rfl, hb⟩; have HB := hid (HB.out.step hb); have HX := hid (keepBox hb HX.out); obtain ⟨k0, k1, k2, k3, k4⟩ := AMat.of (x := ⟨A, P, B, Q, M⟩) HX.out; simp only [Nat.zero_add] at k0 k1 k2 k3 k4; clear hb)
      | (go_at_call 17; refine (sanity_any _).mono ?_; rintro e w1 ⟨rfl, hb⟩; have HB := hid (HB.out.step hb); have HX := hid (keepBox hb HX.out); obtain ⟨k0, k1, k2, k3, k4⟩ := AMat.of (x := ⟨A, P, B, Q, M⟩) HX.out; simp only [Nat.zero_add] at k0 k1 k2 k3 k4; clear hb))
    go_ret
    exact ⟨rfl, HB.out⟩

open Go.ChangeShapes Go.WideShapes Go.ChangeAt Go.RowKit

set_option maxRecDepth 100000 in
set_option maxHeartbeats 1000000 in
theorem follows_lifted (os : Os) (started : os.Started) (H : Type) (enc : TypeId × Value → H) :
    ReturnsInHanded {} Try.checked os 15 .any (Rows.proveFollowsSpec.pre6 enc Try.prog Try.f15 Rows.proveFollowsRow.domain false) (Rows.proveFollowsSpec.post enc Try.prog Try.f15 false true false false) := by
  refine returnsInHanded_of_change (C := Try.checked) Try.own started (by kernel_rfl) Try.func15
    (ChangeSpec.witness6 (enc := enc) (C := Try.checked) false ⟨#[], #[.int .i64 0, .slice none 0 0, .agg #[.int .i64 0, .int .i64 0, .int .i64 0, .int .i64 0, .int .i64 0], .slice none 0 0, .slice none 0 0], []⟩ 8 (by kernel_rfl) (by kernel_rfl) (by kernel_rfl) (by kernel_rfl)) ?_
  intro W base args ds gs before hval0 hW hcnd _
  have hval : ∀ (j : Nat) t v, Try.f15.params[j]? = some t → args[j]? = some v → Value.okWide Try.prog W .any base t v := hval0
  have hW' := hW
  obtain ⟨p, q, hA0, hV, rfl, _, _⟩ := hW
  have hA : DataW.TrodAll enc Try.prog W 0 (fun _ => true) true Try.f15.params.toList args.toList ds p := hA0
  rw [Try.params15] at hA hval
  obtain ⟨args⟩ := args
  obtain ⟨v0, vs0, d0, ds0, p0, q0, rfl, rfl, rfl, h0, r0⟩ := trodAll_cons hA
  obtain ⟨v1, vs1, d1, ds1, p1, q1, rfl, rfl, rfl, h1, r1⟩ := trodAll_cons r0
  obtain ⟨v2, vs2, d2, ds2, p2, q2, rfl, rfl, rfl, h2, r2⟩ := trodAll_cons r1
  obtain ⟨v3, vs3, d3, ds3, p3, q3, rfl, rfl, rfl, h3, r3⟩ := trodAll_cons r2
  obtain ⟨v4, vs4, d4, ds4, p4, q4, rfl, rfl, rfl, h4, r4⟩ := trodAll_cons r3
  obtain ⟨rfl, rfl, rfl⟩ := trodAll_nil r4
  obtain ⟨rfl, rfl⟩ := trodVars_none hV
  obtain ⟨n, rfl, rfl, rfl, w0⟩ := open_int Try.underlying3 (hval 0 3 v0 rfl rfl) h0
  obtain ⟨l, sl1, c1, rfl, hr1, hl1⟩ := open_lines (hval 1 22 v1 rfl rfl) h1
  obtain ⟨b0, b1, b2, b3, b4, rfl⟩ := open_line (hval 2 24 v2 rfl rfl) h2
  obtain ⟨x, sl3, c3, rfl, hr3, hl3⟩ := open_nums (hval 3 46 v3 rfl rfl) h3
  obtain ⟨p, sl4, c4, rfl, hr4, hl4⟩ := open_steps (hval 4 63 v4 rfl rfl) h4
  have hlt : ∀ x ∈ [] ++ (p1 ++ (p2 ++ (p3 ++ (p4 ++ [])))), x.block < W.heap.size := fun x hx => hW'.lt x (by simpa using hx)
  refine (follows_any n l b0 b1 b2 b3 b4 x p sl1 c1 sl3 c3 sl4 c4 W hr1 hl1 hr3 hl3 hr4 hl4).mono fun e W' ⟨he, hb⟩ => ?_
  subst he
  refine ⟨_, rfl, _, _, _, [], [] ++ (p1 ++ (p2 ++ (p3 ++ (p4 ++ [])))), [], hW', trodAll_mk1 (shut_bool Try.underlying4 true), ?_, rfl, hb.frame _, fun h => by cases h⟩
  exact (trodAll_cons_mk (stays read3 row3 h0 hb (fun x hx => by cases hx)) (trodAll_cons_mk (stays read22 row22 h1 hb (fun x hx => hlt x (by simp [hx]))) (trodAll_cons_mk (stays read24 row24 h2 hb (fun x hx => hlt x (by simp [hx]))) (trodAll_cons_mk (stays read46 row46 h3 hb (fun x hx => hlt x (by simp [hx]))) (trodAll_cons_mk (stays read63 row63 h4 hb (fun x hx => hlt x (by simp [hx]))) trodAll_mk0)))))

theorem follows_holds : Rows.ProveFollowsSaid :=
  OpenClaim.holds_of_wide 15 Try.f15 rfl rfl rfl rfl rfl rfl rfl ⟨rfl, rfl, rfl, rfl, rfl⟩ rfl rfl rfl rfl rfl (by kernel_rfl) Try.func15 (by kernel_rfl)
    (of_decide_eq_true (by kernel_rfl)) (by unfold Func.isWrapper; first | (rw [if_pos (by decide +kernel)]; kernel_rfl) | (rw [if_neg (by decide +kernel)]; exact ⟨rfl, rfl⟩))
    (fun os started H enc _ => follows_lifted os started H enc)
#print axioms follows_holds
end Go.Proofs.Ytnjbahiaelehkaa
