/- ProveMore: the walk. -/
import Derived.Test.YtnjbahiaelehkaaC4
namespace Go.Proofs.Ytnjbahiaelehkaa
open Go.RowKit

theorem max_of_bound {l : List AM} {a : AM} {B : Int} (hb : ∀ x, Sat l x → lhs x a ≤ B) : ∀ (k : Nat) (x : Nat → Int), Sat l x → (B - lhs x a).toNat = k → ∃ m, IsMax l a m := by
  intro k
  induction k using Nat.strongRecOn with
  | ind k ih =>
    intro x hx hk
    by_cases h : ∃ y, Sat l y ∧ lhs x a < lhs y a
    · obtain ⟨y, hy, hlt⟩ := h
      have h1 := hb x hx
      have h2 := hb y hy
      exact ih _ (by omega) y hy rfl
    · refine ⟨lhs x a, ⟨x, hx, rfl⟩, fun y hy => ?_⟩
      by_cases hle : lhs y a ≤ lhs x a
      · exact hle
      · exact absurd ⟨y, hy, by omega⟩ h
theorem sat_more {l : List AM} {a : AM} {x : Nat → Int} : Sat (l ++ [a]) x ↔ Sat l x ∧ lhs x a ≤ a.M := by
  unfold Sat
  constructor
  · intro h
    exact ⟨fun b hb => h b (List.mem_append_left _ hb), h a (List.mem_append_right _ (List.mem_singleton.2 rfl))⟩
  · rintro ⟨h1, h2⟩ b hb
    rcases List.mem_append.1 hb with hb | hb
    · exact h1 b hb
    · rw [List.mem_singleton.1 hb]; exact h2
theorem poss_more {l : List AM} {a : AM} (h : possB (l ++ [a]) = true) : possB l = true := by
  obtain ⟨x, hx⟩ := possB_iff.1 h
  exact possB_iff.2 ⟨x, (sat_more.1 hx).1⟩
theorem ent_more {l : List AM} {a b : AM} (h : entB l b = true) : entB (l ++ [a]) b = true := entB_iff.2 fun x hx => entB_iff.1 h x (sat_more.1 hx).1
theorem most_more {l : List AM} {a b : AM} {m : Int} (h : possB (l ++ [a]) = true) (hm : maxO l b = some m) : ∃ k, maxO (l ++ [a]) b = some k ∧ k ≤ m := by
  obtain ⟨x, hx⟩ := possB_iff.1 h
  have hM := maxO_some.1 hm
  obtain ⟨k, hk⟩ := max_of_bound (l := l ++ [a]) (a := b) (B := m) (fun x hx => hM.2 x (sat_more.1 hx).1) _ x hx rfl
  refine ⟨k, maxO_some.2 hk, ?_⟩
  obtain ⟨⟨y, hy, e⟩, _⟩ := hk
  have := hM.2 y (sat_more.1 hy).1
  omega
theorem check_more {n : Int} {l : List AM} {a : AM} (h : checkN n l = 0) (hl : l.length ≤ 39) (ha : rightB n a = true) : checkN n (l ++ [a]) = 0 := by
  obtain ⟨hn, _, hr⟩ := checkN_in h
  unfold checkN
  rw [if_pos (by simp [inB]; omega), if_neg (by simp; omega)]
  have : rightsB n (l ++ [a]) = true := by
    unfold rightsB at *
    rw [List.all_append, hr]
    simp [ha]
  rw [if_pos this]
theorem lawRight_one {n : Int} {l : List AM} (h : lawRight n l = true) : l.length ≤ 40 ∧ checkN n l = 0 := by
  unfold lawRight at h
  exact of_decide_eq_true h
theorem rights_two {n : Int} {a b : AM} (h : checkN n [a, b] = 0) : rightB n a = true ∧ rightB n b = true := by
  obtain ⟨_, _, hr⟩ := checkN_in h
  unfold rightsB at hr
  simpa using hr
theorem lineN_of {n : Int} {l : List AM} {b : AM} (h : checkN n l = 0) (hb : rightB n b = true) : lineN n l b = 0 := by
  unfold lineN
  rw [if_pos h, if_pos hb]
/-- What the law compares. -/
theorem more_law {n : Int} {l : List AM} {a b : AM} (h1 : checkN n l = 0) (hl : l.length ≤ 39) (ha : rightB n a = true) (hb : rightB n b = true) :
    checkN n (l ++ [a]) = 0 ∧ lineN n l b = 0 ∧ lineN n (l ++ [a]) b = 0 ∧ (possV n (l ++ [a]) = true → possV n l = true) ∧ (entV n l b = true → entV n (l ++ [a]) b = true) ∧ (possV n (l ++ [a]) = true → mostC n l b = 0 → mostC n (l ++ [a]) b = 0 ∧ mostV n (l ++ [a]) b ≤ mostV n l b) := by
  have h2 := check_more h1 hl ha
  have h3 := lineN_of h1 hb
  have h4 := lineN_of h2 hb
  refine ⟨h2, h3, h4, ?_, ?_, ?_⟩
  · unfold possV
    rw [if_pos h1, if_pos h2]
    exact poss_more
  · unfold entV
    rw [if_pos h3, if_pos h4]
    exact ent_more
  · unfold possV mostC mostV mostE mostN
    rw [if_pos h2, if_pos h3, if_pos h4, if_pos h3, if_pos h4]
    intro hp hc
    rw [if_pos (poss_more hp)] at hc
    rw [if_pos hp, if_pos hp, if_pos (poss_more hp)]
    cases hm : maxO l b with
    | none => rw [hm] at hc; cases hc
    | some m =>
      obtain ⟨k, hk, hle⟩ := most_more hp hm
      rw [hk]
      exact ⟨rfl, hle⟩

set_option maxRecDepth 100000 in
set_option maxHeartbeats 8000000 in
theorem more_any (n : Int) (l : List AM) (aA aP aB aQ aM bA bP bB bQ bM : Int) (a : Option Addr) (cap : Nat) (w : World) (hl : Rd w a l) (hlen : l.length ≤ 9223372036854775807) :
    Calls Try.prog 4 #[.int .i64 n, .slice a l.length cap, .agg #[.int .i64 aA, .int .i64 aP, .int .i64 aB, .int .i64 aQ, .int .i64 aM], .agg #[.int .i64 bA, .int .i64 bP, .int .i64 bB, .int .i64 bQ, .int .i64 bM]] w (RetB (.bool true) w) := by
  have HL := hid hl; clear hl
  by_cases h1 : lawRight n l = true
  · by_cases h2 : 39 < l.length
    · go_enter Try.func4, Try.ntmps4
      go_wp2_with (first
        | (go_at_call 22; refine (lawright_any n l a cap _ (HL.out.below (bmore (bnew _ _) _)) hlen).mono ?_; rintro e w1 ⟨rfl, hb1⟩)
        | (go_at_call 17; refine (sanity_any _).mono ?_; rintro e w2 ⟨rfl, hb2⟩))
      go_ret
      exact ⟨rfl, ((bmore (bnew _ _) _).step hb1).step hb2⟩
    · have H1 := hid h1
      by_cases h3 : lawRight n [⟨aA, aP, aB, aQ, aM⟩, ⟨bA, bP, bB, bQ, bM⟩] = true
      · obtain ⟨_, hc⟩ := lawRight_one h1
        obtain ⟨ha, hb⟩ := rights_two (lawRight_one h3).2
        obtain ⟨hc2, hl1, hl2, k1, k2, k3⟩ := more_law hc (by omega) ha hb
        have HC := hid (And.intro hc (And.intro hc2 (And.intro hl1 hl2)))
        have hlm : (l ++ [(⟨aA, aP, aB, aQ, aM⟩ : AM)]).length ≤ 1000000 := by rw [List.length_append, List.length_singleton]; omega
        obtain ⟨mo, hmo⟩ : ∃ mo, mo = l ++ [(⟨aA, aP, aB, aQ, aM⟩ : AM)] := ⟨_, rfl⟩
        rw [← hmo] at HC k1 k2 k3 hlm
        have HMO := hid hmo
        obtain ⟨p1, hp1⟩ : ∃ p, possV n l = p := ⟨_, rfl⟩
        obtain ⟨p2, hp2⟩ : ∃ p, possV n mo = p := ⟨_, rfl⟩
        obtain ⟨e1, he1⟩ : ∃ p, entV n l ⟨bA, bP, bB, bQ, bM⟩ = p := ⟨_, rfl⟩
        obtain ⟨e2, he2⟩ : ∃ p, entV n mo ⟨bA, bP, bB, bQ, bM⟩ = p := ⟨_, rfl⟩
        obtain ⟨c1, hc1⟩ : ∃ p, mostC n l ⟨bA, bP, bB, bQ, bM⟩ = p := ⟨_, rfl⟩
        obtain ⟨c2, hcc2⟩ : ∃ p, mostC n mo ⟨bA, bP, bB, bQ, bM⟩ = p := ⟨_, rfl⟩
        obtain ⟨m1, hm1⟩ : ∃ p, mostV n l ⟨bA, bP, bB, bQ, bM⟩ = p := ⟨_, rfl⟩
        obtain ⟨m2, hm2⟩ : ∃ p, mostV n mo ⟨bA, bP, bB, bQ, bM⟩ = p := ⟨_, rfl⟩
        rw [hp1, hp2] at k1
        rw [he1, he2] at k2
        rw [hp2, hc1, hcc2, hm1, hm2] at k3
        have HV := hid (And.intro hp1 (And.intro hp2 (And.intro he1 (And.intro he2 (And.intro hc1 (And.intro hcc2 (And.intro hm1 hm2)))))))
        have hfin : (p2 = false ∨ (p2 = true ∧ p1 = true)) ∧ (e1 = false ∨ (e1 = true ∧ e2 = true)) ∧ (p2 = false ∨ (c1 == 0) = false ∨ (c1 = 0 ∧ c2 = 0 ∧ decide (m1 < m2) = false)) := by
          refine ⟨?_, ?_, ?_⟩
          · cases p2 with
            | false => exact .inl rfl
            | true => exact .inr ⟨rfl, k1 rfl⟩
          · cases e1 with
            | false => exact .inl rfl
            | true => exact .inr ⟨rfl, k2 rfl⟩
          · cases p2 with
            | false => exact .inl rfl
            | true =>
              by_cases h : c1 = 0
              · obtain ⟨q1, q2⟩ := k3 rfl h
                exact .inr (.inr ⟨h, q1, by simp; omega⟩)
              · exact .inr (.inl (by simpa using h))
        clear k1 k2 k3 hp1 hp2 he1 he2 hc1 hcc2 hm1 hm2 hmo hc hc2 hl1 hl2 ha hb
        have HFIN := hid hfin
        clear hfin
        have HBX := AMat.of (x := ⟨aA, aP, aB, aQ, aM⟩) (W := (w.alloc (.cells #[.int .i64 aA, .int .i64 aP, .int .i64 aB, .int .i64 aQ, .int .i64 aM] 24)).alloc (.cells #[.int .i64 bA, .int .i64 bP, .int .i64 bB, .int .i64 bQ, .int .i64 bM] 24)) (g := w.heap.size) (by simp only [heap_alloc_if, World.size_alloc] <;> simp)
        have HBY := AMat.of (x := ⟨bA, bP, bB, bQ, bM⟩) (W := (w.alloc (.cells #[.int .i64 aA, .int .i64 aP, .int .i64 aB, .int .i64 aQ, .int .i64 aM] 24)).alloc (.cells #[.int .i64 bA, .int .i64 bP, .int .i64 bB, .int .i64 bQ, .int .i64 bM] 24)) (g := w.heap.size + 1) (by simp only [heap_alloc_if, World.size_alloc] <;> simp)
        obtain ⟨k0, k1, k2, k3, k4⟩ := HBX
        obtain ⟨j0, j1, j2, j3, j4⟩ := HBY
        simp only [Nat.zero_add] at k0 k1 k2 k3 k4 j0 j1 j2 j3 j4
        have HB := hid (bmore (bnew w (.cells #[.int .i64 aA, .int .i64 aP, .int .i64 aB, .int .i64 aQ, .int .i64 aM] 24)) (.cells #[.int .i64 bA, .int .i64 bP, .int .i64 bB, .int .i64 bQ, .int .i64 bM] 24))
        have H3 := hid h3
        clear h1 h3
        go_enter Try.func4, Try.ntmps4
        go_upto_region 3 with (first
          | (go_at_call 22; (with_reducible refine (lawright_any n l a cap _ (HL.out.below HB.out) hlen).mono ?_); rw [H1.out]; rintro e w1 ⟨rfl, hb⟩; replace k0 := cell_later hb k0; replace j0 := cell_later hb j0; replace k1 := cell_later hb k1; replace j1 := cell_later hb j1; replace k2 := cell_later hb k2; replace j2 := cell_later hb j2; replace k3 := cell_later hb k3; replace j3 := cell_later hb j3; replace k4 := cell_later hb k4; replace j4 := cell_later hb j4; have HB := hid (HB.out.step hb); clear hb)
          | (go_at_call 22; refine (lawright_any n [⟨aA, aP, aB, aQ, aM⟩, ⟨bA, bP, bB, bQ, bM⟩] _ _ _ (Rd.new _ [⟨aA, aP, aB, aQ, aM⟩, ⟨bA, bP, bB, bQ, bM⟩] (by simp)) (by simp)).mono ?_; rw [H3.out]; rintro e w1 ⟨rfl, hb⟩; have hb := (bnew _ _).step hb; replace k0 := cell_later hb k0; replace j0 := cell_later hb j0; replace k1 := cell_later hb k1; replace j1 := cell_later hb j1; replace k2 := cell_later hb k2; replace j2 := cell_later hb j2; replace k3 := cell_later hb k3; replace j3 := cell_later hb j3; replace k4 := cell_later hb k4; replace j4 := cell_later hb j4; have HB := hid (HB.out.step hb); clear hb))
        go_upto_region 4 with (go_at_call 23; refine (with_any l aA aP aB aQ aM a cap _ (HL.out.below HB.out) (by omega)).mono ?_; rintro e w1 ⟨hb, v, rfl, hown⟩; rw [← HMO.out] at hown; obtain ⟨am, cm, rfl, hrd⟩ := hown.rd; replace k0 := cell_later hb k0; replace j0 := cell_later hb j0; replace k1 := cell_later hb k1; replace j1 := cell_later hb j1; replace k2 := cell_later hb k2; replace j2 := cell_later hb j2; replace k3 := cell_later hb k3; replace j3 := cell_later hb j3; replace k4 := cell_later hb k4; replace j4 := cell_later hb j4; have HB := hid (HB.out.step hb); have HRM := hid hrd; clear hb hrd hown)
        go_upto_region 10 with (first
          | (go_at_call 24; (with_reducible refine (possible_any n l a cap _ (HL.out.below HB.out) (by omega)).mono ?_); rw [HV.out.1, HC.out.1]; rintro e w1 ⟨rfl, hb⟩; replace k0 := cell_later hb k0; replace j0 := cell_later hb j0; replace k1 := cell_later hb k1; replace j1 := cell_later hb j1; replace k2 := cell_later hb k2; replace j2 := cell_later hb j2; replace k3 := cell_later hb k3; replace j3 := cell_later hb j3; replace k4 := cell_later hb k4; replace j4 := cell_later hb j4; have HB := hid (HB.out.step hb); have HRM := hid (HRM.out.below hb); clear hb)
          | (go_at_call 24; (with_reducible refine (possible_any n mo am cm _ HRM.out hlm).mono ?_); rw [HV.out.2.1, HC.out.2.1]; rintro e w1 ⟨rfl, hb⟩; replace k0 := cell_later hb k0; replace j0 := cell_later hb j0; replace k1 := cell_later hb k1; replace j1 := cell_later hb j1; replace k2 := cell_later hb k2; replace j2 := cell_later hb j2; replace k3 := cell_later hb k3; replace j3 := cell_later hb j3; replace k4 := cell_later hb k4; replace j4 := cell_later hb j4; have HB := hid (HB.out.step hb); have HRM := hid (HRM.out.below hb); clear hb)
          | (go_at_call 18; (with_reducible refine (most_any n l bA bP bB bQ bM a cap _ (HL.out.below HB.out) (by omega)).mono ?_); rw [HV.out.2.2.2.2.2.2.1, HV.out.2.2.2.2.1]; rintro e w1 ⟨rfl, hb⟩; replace k0 := cell_later hb k0; replace j0 := cell_later hb j0; replace k1 := cell_later hb k1; replace j1 := cell_later hb j1; replace k2 := cell_later hb k2; replace j2 := cell_later hb j2; replace k3 := cell_later hb k3; replace j3 := cell_later hb j3; replace k4 := cell_later hb k4; replace j4 := cell_later hb j4; have HB := hid (HB.out.step hb); have HRM := hid (HRM.out.below hb); clear hb)
          | (go_at_call 18; (with_reducible refine (most_any n mo bA bP bB bQ bM am cm _ HRM.out hlm).mono ?_); rw [HV.out.2.2.2.2.2.2.2, HV.out.2.2.2.2.2.1]; rintro e w1 ⟨rfl, hb⟩; replace k0 := cell_later hb k0; replace j0 := cell_later hb j0; replace k1 := cell_later hb k1; replace j1 := cell_later hb j1; replace k2 := cell_later hb k2; replace j2 := cell_later hb j2; replace k3 := cell_later hb k3; replace j3 := cell_later hb j3; replace k4 := cell_later hb k4; replace j4 := cell_later hb j4; have HB := hid (HB.out.step hb); have HRM := hid (HRM.out.below hb); clear hb)
          | (go_at_call 25; (with_reducible refine (entails_any n l bA bP bB bQ bM a cap _ (HL.out.below HB.out) (by omega)).mono ?_); rw [HV.out.2.2.1, HC.out.2.2.1]; rintro e w1 ⟨rfl, hb⟩; replace k0 := cell_later hb k0; replace j0 := cell_later hb j0; replace k1 := cell_later hb k1; replace j1 := cell_later hb j1; replace k2 := cell_later hb k2; replace j2 := cell_later hb j2; replace k3 := cell_later hb k3; replace j3 := cell_later hb j3; replace k4 := cell_later hb k4; replace j4 := cell_later hb j4; have HB := hid (HB.out.step hb); have HRM := hid (HRM.out.below hb); clear hb)
          | (go_at_call 25; (with_reducible refine (entails_any n mo bA bP bB bQ bM am cm _ HRM.out hlm).mono ?_); rw [HV.out.2.2.2.1, HC.out.2.2.2]; rintro e w1 ⟨rfl, hb⟩; replace k0 := cell_later hb k0; replace j0 := cell_later hb j0; replace k1 := cell_later hb k1; replace j1 := cell_later hb j1; replace k2 := cell_later hb k2; replace j2 := cell_later hb j2; replace k3 := cell_later hb k3; replace j3 := cell_later hb j3; replace k4 := cell_later hb k4; replace j4 := cell_later hb j4; have HB := hid (HB.out.step hb); have HRM := hid (HRM.out.below hb); clear hb))
        obtain ⟨f1, f2, f3⟩ := HFIN.out
        clear k0 k1 k2 k3 k4 j0 j1 j2 j3 j4
        rcases f1 with rfl | ⟨rfl, rfl⟩ <;> rcases f2 with rfl | ⟨rfl, rfl⟩ <;> rcases f3 with h | h | ⟨rfl, rfl, h⟩
        all_goals first
          | (cases h; done)
          | (go_wp2_with (go_at_call 17; refine (sanity_any _).mono ?_; rintro e w2 ⟨rfl, hb⟩; have HB := hid (HB.out.step hb); clear hb); go_ret; exact ⟨rfl, HB.out⟩)
      · have h3' : lawRight n [⟨aA, aP, aB, aQ, aM⟩, ⟨bA, bP, bB, bQ, bM⟩] = false := by simpa using h3
        have H3 := hid h3'
        have HBX := AMat.of (x := ⟨aA, aP, aB, aQ, aM⟩) (W := (w.alloc (.cells #[.int .i64 aA, .int .i64 aP, .int .i64 aB, .int .i64 aQ, .int .i64 aM] 24)).alloc (.cells #[.int .i64 bA, .int .i64 bP, .int .i64 bB, .int .i64 bQ, .int .i64 bM] 24)) (g := w.heap.size) (by simp only [heap_alloc_if, World.size_alloc] <;> simp)
        have HBY := AMat.of (x := ⟨bA, bP, bB, bQ, bM⟩) (W := (w.alloc (.cells #[.int .i64 aA, .int .i64 aP, .int .i64 aB, .int .i64 aQ, .int .i64 aM] 24)).alloc (.cells #[.int .i64 bA, .int .i64 bP, .int .i64 bB, .int .i64 bQ, .int .i64 bM] 24)) (g := w.heap.size + 1) (by simp only [heap_alloc_if, World.size_alloc] <;> simp)
        obtain ⟨k0, k1, k2, k3, k4⟩ := HBX
        obtain ⟨j0, j1, j2, j3, j4⟩ := HBY
        simp only [Nat.zero_add] at k0 k1 k2 k3 k4 j0 j1 j2 j3 j4
        have HB := hid (bmore (bnew w (.cells #[.int .i64 aA, .int .i64 aP, .int .i64 aB, .int .i64 aQ, .int .i64 aM] 24)) (.cells #[.int .i64 bA, .int .i64 bP, .int .i64 bB, .int .i64 bQ, .int .i64 bM] 24))
        clear h1 h3 h3'
        go_enter Try.func4, Try.ntmps4
        go_wp2_with (first
          | (go_at_call 22; (with_reducible refine (lawright_any n l a cap _ (HL.out.below HB.out) hlen).mono ?_); rw [H1.out]; rintro e w1 ⟨rfl, hb⟩; replace k0 := cell_later hb k0; replace j0 := cell_later hb j0; replace k1 := cell_later hb k1; replace j1 := cell_later hb j1; replace k2 := cell_later hb k2; replace j2 := cell_later hb j2; replace k3 := cell_later hb k3; replace j3 := cell_later hb j3; replace k4 := cell_later hb k4; replace j4 := cell_later hb j4; have HB := hid (HB.out.step hb); clear hb)
          | (go_at_call 22; refine (lawright_any n [⟨aA, aP, aB, aQ, aM⟩, ⟨bA, bP, bB, bQ, bM⟩] _ _ _ (Rd.new _ [⟨aA, aP, aB, aQ, aM⟩, ⟨bA, bP, bB, bQ, bM⟩] (by simp)) (by simp)).mono ?_; rw [H3.out]; rintro e w1 ⟨rfl, hb⟩; have hb := (bnew _ _).step hb; replace k0 := cell_later hb k0; replace j0 := cell_later hb j0; replace k1 := cell_later hb k1; replace j1 := cell_later hb j1; replace k2 := cell_later hb k2; replace j2 := cell_later hb j2; replace k3 := cell_later hb k3; replace j3 := cell_later hb j3; replace k4 := cell_later hb k4; replace j4 := cell_later hb j4; have HB := hid (HB.out.step hb); clear hb)
          | (go_at_call 17; refine (sanity_any _).mono ?_; rintro e w2 ⟨rfl, hb⟩; have HB := hid (HB.out.step hb); clear hb))
        go_ret
        exact ⟨rfl, HB.out⟩
  · have h1' : lawRight n l = false := by simpa using h1
    have H1 := hid h1'
    have HB := hid (bmore (bnew w (.cells #[.int .i64 aA, .int .i64 aP, .int .i64 aB, .int .i64 aQ, .int .i64 aM] 24)) (.cells #[.int .i64 bA, .int .i64 bP, .int .i64 bB, .int .i64 bQ, .int .i64 bM] 24))
    clear h1 h1'
    go_enter Try.func4, Try.ntmps4
    go_wp2_with (first
      | (go_at_call 22; refine (lawright_any n l a cap _ (HL.out.below HB.out) hlen).mono ?_; rw [H1.out]; rintro e w1 ⟨rfl, hb⟩; have HB := hid (HB.out.step hb); clear hb)
      | (go_at_call 17; refine (sanity_any _).mono ?_; rintro e w2 ⟨rfl, hb⟩; have HB := hid (HB.out.step hb); clear hb))
    go_ret
    exact ⟨rfl, HB.out⟩
end Go.Proofs.Ytnjbahiaelehkaa
