/- How Model chooses numbers, plainly: the least that a number can be, else the greatest, else zero; it is fixed by two lines. -/
import Derived.Test.YtnjbahiaelehkaaM3
namespace Go.Proofs.Ytnjbahiaelehkaa

section
variable {F Mx : Int} {l : List AM} {n : Nat} {D : Nat → Nat → Int} {T : Nat → Nat → Tr}
theorem vl_turn {y : Nat → Int} {k i : Nat} {t : Int} : vl (fun j => if j = k then t else y j) i = if i / 2 = k then (if i % 2 = 0 then t else -t) else vl y i := by
  unfold vl
  by_cases h : i / 2 = k <;> simp [h]
theorem vl_abs {y : Nat → Int} {i : Nat} {B : Int} (h : -B ≤ y (i / 2) ∧ y (i / 2) ≤ B) : -B ≤ vl y i ∧ vl y i ≤ B := by
  unfold vl
  split <;> omega

/-- A number that cannot be one more (or one less), with those ahead of it kept, is not far from them. -/
theorem pin_bound (h : Fin F 1000000 l n D T) (ht : Tight F n D) (hF : 100 * (1000000 : Int) < F) (hn : n ≤ 12) {k : Nat} {y : Nat → Int} (hy : Sat l y) {B : Int} (hB : 0 ≤ B) (hX : ∀ j, j < k → -B ≤ y j ∧ y j ≤ B)
    {d : Int} (hd : d = 1 ∨ d = -1) (hno : ∀ y', Sat l y' → (∀ j, j < k → y' j = y j) → y' k ≠ y k + d) : -(B + 46000000) ≤ y k ∧ y k ≤ B + 46000000 := by
  refine Classical.byContradiction fun hc => ?_
  have hbd : ∀ i j, i < 2 * n → j < 2 * n → i ≠ j → D i j ≠ F → -46000000 ≤ D i j ∧ D i j ≤ 46000000 := fun i j hi hj hij hf => by
    have := h.st.bound h.ok (by omega) hn (Nat.le_refl _) hi hj hij hf
    omega
  have hp : Part F n D (fun j => j ≤ k) (fun j => if j = k then y k + d else y j) := by
    refine ⟨fun i hi hv hf => ?_, fun i j hi hj hij hv hv' hf => ?_⟩
    · have h1 := h.unary hy hi hf
      have h2 := hbd i (ot i) hi (ot_lt hi) (Ne.symm (ot_ne i)) hf
      rw [vl_turn]
      by_cases e : i / 2 = k
      · rw [if_pos e]
        unfold vl at h1
        rw [e] at h1
        split <;> rename_i e2 <;> simp only [e2, if_true, if_false] at h1 <;> omega
      · rw [if_neg e]; exact h1
    · have h1 := h.sound hy hi hj hij hf
      have h2 := hbd i j hi hj hij hf
      rw [vl_turn, vl_turn]
      have hvi : i / 2 < k → -B ≤ vl y i ∧ vl y i ≤ B := fun h => vl_abs (hX _ h)
      have hvj : j / 2 < k → -B ≤ vl y j ∧ vl y j ≤ B := fun h => vl_abs (hX _ h)
      have hki : i / 2 = k → vl y i = if i % 2 = 0 then y k else -(y k) := fun h => by unfold vl; rw [h]
      have hkj : j / 2 = k → vl y j = if j % 2 = 0 then y k else -(y k) := fun h => by unfold vl; rw [h]
      have hv1 : i / 2 ≤ k := hv
      have hv2 : j / 2 ≤ k := hv'
      by_cases e : i / 2 = k
      · have a1 := hki e
        rw [if_pos e]
        by_cases e' : j / 2 = k
        · have a2 := hkj e'
          rw [if_pos e']
          by_cases p : i % 2 = 0 <;> by_cases q : j % 2 = 0 <;> simp only [p, q, if_true, if_false] at a1 a2 ⊢ <;> omega
        · have a2 := hvj (by omega)
          rw [if_neg e']
          by_cases p : i % 2 = 0 <;> simp only [p, if_true, if_false] at a1 ⊢ <;> omega
      · have a1 := hvi (by omega)
        rw [if_neg e]
        by_cases e' : j / 2 = k
        · have a2 := hkj e'
          rw [if_pos e']
          by_cases q : j % 2 = 0 <;> simp only [q, if_true, if_false] at a2 ⊢ <;> omega
        · rw [if_neg e']; exact h1
  obtain ⟨y', hs, he⟩ := Part.all h ht hp
  refine hno y' hs (fun j hj => ?_) ?_
  · have := he j (Nat.le_of_lt hj)
    rw [this, if_neg (by omega)]
  · have := he k (Nat.le_refl k)
    rw [this, if_pos rfl]
end

def lo0 (k : Nat) : AM := ⟨k, -1, 0, 0, 0⟩
def hi0 (k : Nat) : AM := ⟨k, 1, 0, 0, 0⟩
theorem lhs_lo0 (y : Nat → Int) (k : Nat) : lhs y (lo0 k) = -(y k) := by unfold lhs lo0; simp
theorem lhs_hi0 (y : Nat → Int) (k : Nat) : lhs y (hi0 k) = y k := by unfold lhs hi0; simp
noncomputable def pinV (all : List AM) (k : Nat) : Int := match maxO all (lo0 k) with | some m => -m | none => (match maxO all (hi0 k) with | some m => m | none => 0)
noncomputable def pinL (l : List AM) : Nat → List AM
  | 0 => l
  | k + 1 => pinL l k ++ [⟨k, 1, 0, 0, pinV (pinL l k) k⟩, ⟨k, -1, 0, 0, -(pinV (pinL l k) k)⟩]
noncomputable def modelX (l : List AM) (k : Nat) : Int := pinV (pinL l k) k

theorem sat_two {all : List AM} {k : Nat} {v : Int} {y : Nat → Int} : Sat (all ++ [⟨k, 1, 0, 0, v⟩, ⟨k, -1, 0, 0, -v⟩]) y ↔ Sat all y ∧ y k = v := by
  unfold Sat
  constructor
  · intro h
    refine ⟨fun a ha => h a (List.mem_append_left _ ha), ?_⟩
    have h1 := h ⟨k, 1, 0, 0, v⟩ (by simp)
    have h2 := h ⟨k, -1, 0, 0, -v⟩ (by simp)
    unfold lhs at h1 h2
    simp at h1 h2
    omega
  · rintro ⟨h1, h2⟩ a ha
    rcases List.mem_append.1 ha with ha | ha
    · exact h1 a ha
    · simp at ha
      rcases ha with rfl | rfl
      · unfold lhs; simp; omega
      · unfold lhs; simp; omega

/-- Behind k numbers. -/
structure MdI (l : List AM) (n k : Nat) : Prop where
  sat : ∀ y, Sat (pinL l k) y ↔ Sat l y ∧ ∀ j, j < k → y j = modelX l j
  poss : ∃ y, Sat (pinL l k) y
  bd : ∀ j, j < k → -((j + 1 : Nat) * 46000000) ≤ modelX l j ∧ modelX l j ≤ (j + 1 : Nat) * 46000000
  ok : ∀ a, a ∈ pinL l k → Ok n 560000000 a
  len : (pinL l k).length = l.length + 2 * k

theorem Ok.wide {n : Nat} {a : AM} (h : Ok n 1000000 a) : Ok n 560000000 a := ⟨h.a0, h.an, h.p, h.q, by have := h.lo; omega, by have := h.hi; omega, h.b0, h.b1⟩
theorem MdI.start {l : List AM} {n : Nat} (ok : ∀ a, a ∈ l → Ok n 1000000 a) (hp : ∃ y, Sat l y) : MdI l n 0 :=
  ⟨fun _ => ⟨fun h => ⟨h, fun j hj => absurd hj (Nat.not_lt_zero j)⟩, fun h => h.1⟩, hp, fun j hj => absurd hj (Nat.not_lt_zero j), fun a ha => (ok a ha).wide, rfl⟩

theorem MdI.step {F Mx : Int} {l : List AM} {n k : Nat} {D D' : Nat → Nat → Int} {T T' : Nat → Nat → Tr} (m : MdI l n k) (hF : 100 * (1000000 : Int) < F) (hn : n ≤ 12) (hk : k < n) (h : Fin F 1000000 l n D T) (ht : Tight F n D)
    (h' : Fin F Mx (pinL l k) n D' T') (ht' : Tight F n D') : MdI l n (k + 1) := by
  have ok1 : Ok n 1000000 (lo0 k) := ⟨by show (0 : Int) ≤ k; omega, by show (k : Int) < n; omega, .inr rfl, .inl rfl, by show -1000000 ≤ (0 : Int); omega, by show (0 : Int) ≤ 1000000; omega, fun _ => rfl, fun h => absurd rfl h⟩
  have ok2 : Ok n 1000000 (hi0 k) := ⟨by show (0 : Int) ≤ k; omega, by show (k : Int) < n; omega, .inl rfl, .inl rfl, by show -1000000 ≤ (0 : Int); omega, by show (0 : Int) ≤ 1000000; omega, fun _ => rfl, fun h => absurd rfl h⟩
  -- the number is one that numbers have, and not far
  have key : (∃ y, Sat (pinL l k) y ∧ y k = modelX l k) ∧ -((k + 1 : Nat) * 46000000) ≤ modelX l k ∧ modelX l k ≤ (k + 1 : Nat) * 46000000 := by
    have hB : ∀ y, Sat (pinL l k) y → ∀ j, j < k → -((k : Int) * 46000000) ≤ y j ∧ y j ≤ (k : Int) * 46000000 := by
      intro y hy j hj
      rw [((m.sat y).1 hy).2 j hj]
      have := m.bd j hj
      omega
    have hd : ∀ y, Sat (pinL l k) y → ∀ d : Int, d = 1 ∨ d = -1 → (∀ y', Sat (pinL l k) y' → y' k ≠ y k + d) → -((k + 1 : Nat) * 46000000) ≤ y k ∧ y k ≤ (k + 1 : Nat) * 46000000 := by
      intro y hy d hd hno
      have hs := (m.sat y).1 hy
      have := pin_bound h ht hF hn hs.1 (B := (k : Int) * 46000000) (by omega) (hB y hy) hd (fun y' hy' he => hno y' ((m.sat y').2 ⟨hy', fun j hj => by rw [he j hj, hs.2 j hj]⟩))
      omega
    show (∃ y, Sat (pinL l k) y ∧ y k = pinV (pinL l k) k) ∧ -((k + 1 : Nat) * 46000000) ≤ pinV (pinL l k) k ∧ pinV (pinL l k) k ≤ (k + 1 : Nat) * 46000000
    unfold pinV
    cases hm : maxO (pinL l k) (lo0 k) with
    | some v =>
      obtain ⟨⟨y, hy, e⟩, hmax⟩ := maxO_some.1 hm
      rw [lhs_lo0] at e
      have e2 : y k = -v := by omega
      have := hd y hy (-1) (.inr rfl) (fun y' hy' he => by
        have := hmax y' hy'
        rw [lhs_lo0] at this
        omega)
      refine ⟨⟨y, hy, e2⟩, ?_⟩
      show -((k + 1 : Nat) * 46000000) ≤ -v ∧ -v ≤ (k + 1 : Nat) * 46000000
      rw [← e2]; exact this
    | none =>
      cases hm2 : maxO (pinL l k) (hi0 k) with
      | some v =>
        obtain ⟨⟨y, hy, e⟩, hmax⟩ := maxO_some.1 hm2
        rw [lhs_hi0] at e
        have := hd y hy 1 (.inl rfl) (fun y' hy' he => by
          have := hmax y' hy'
          rw [lhs_hi0] at this
          omega)
        refine ⟨⟨y, hy, e⟩, ?_⟩
        show -((k + 1 : Nat) * 46000000) ≤ v ∧ v ≤ (k + 1 : Nat) * 46000000
        rw [← e]; exact this
      | none =>
        have g1 := h'.far_max ht' ok1
        have g2 := h'.far_max ht' ok2
        rw [hm] at g1
        rw [hm2] at g2
        have n1 : nd (lo0 k).A (lo0 k).P = 2 * k + 1 := by unfold nd lo0; simp
        have n2 : nd (hi0 k).A (hi0 k).P = 2 * k := by unfold nd hi0; simp
        unfold far at g1 g2
        rw [if_pos (by rfl : (lo0 k).Q = 0), n1, ot_odd] at g1
        rw [if_pos (by rfl : (hi0 k).Q = 0), n2, ot_even] at g2
        have f1 : D' (2 * k + 1) (2 * k) = F := by
          split at g1
          · assumption
          · cases g1
        have f2 : D' (2 * k) (2 * k + 1) = F := by
          split at g2
          · assumption
          · cases g2
        obtain ⟨y, hy, e⟩ := h'.att1 ht' (i := 2 * k) (by omega) (s := 0) (fun hf => absurd (by rw [ot_even]; exact f2) hf) (fun hf => absurd (by rw [ot_even]; exact f1) hf)
        refine ⟨⟨y, hy, ?_⟩, ?_⟩
        · unfold vl at e
          rw [if_pos (by omega)] at e
          have : 2 * k / 2 = k := by omega
          rw [this] at e
          exact e
        · show -((k + 1 : Nat) * 46000000) ≤ (0 : Int) ∧ (0 : Int) ≤ (k + 1 : Nat) * 46000000
          omega
  obtain ⟨⟨y, hy, e⟩, b1, b2⟩ := key
  refine ⟨fun z => ?_, ⟨y, sat_two.2 ⟨hy, e⟩⟩, fun j hj => ?_, fun a ha => ?_, ?_⟩
  · show Sat (pinL l k ++ _) z ↔ _
    rw [sat_two, m.sat z]
    constructor
    · rintro ⟨⟨h1, h2⟩, h3⟩
      refine ⟨h1, fun j hj => ?_⟩
      by_cases e : j = k
      · rw [e]; exact h3
      · exact h2 j (by omega)
    · rintro ⟨h1, h2⟩
      exact ⟨⟨h1, fun j hj => h2 j (by omega)⟩, h2 k (by omega)⟩
  · by_cases e : j = k
    · rw [e]; exact ⟨b1, b2⟩
    · exact m.bd j (by omega)
  · have ha' : a ∈ pinL l k ++ [⟨k, 1, 0, 0, modelX l k⟩, ⟨k, -1, 0, 0, -(modelX l k)⟩] := ha
    rcases List.mem_append.1 ha' with ha | ha
    · exact m.ok a ha
    · simp at ha
      rcases ha with rfl | rfl
      · exact ⟨by show (0 : Int) ≤ k; omega, by show (k : Int) < n; omega, .inl rfl, .inl rfl, by show -560000000 ≤ modelX l k; omega, by show modelX l k ≤ 560000000; omega, fun _ => rfl, fun h => absurd rfl h⟩
      · exact ⟨by show (0 : Int) ≤ k; omega, by show (k : Int) < n; omega, .inr rfl, .inl rfl, by show -560000000 ≤ -(modelX l k); omega, by show -(modelX l k) ≤ 560000000; omega, fun _ => rfl, fun h => absurd rfl h⟩
  · show (pinL l k ++ _).length = _
    rw [List.length_append, m.len]
    simp
    omega

/-- The numbers that Model chooses fit. -/
theorem MdI.fit {l : List AM} {n : Nat} (ok : ∀ a, a ∈ l → Ok n 1000000 a) (m : MdI l n n) : Sat l (modelX l) := by
  obtain ⟨y, hy⟩ := m.poss
  obtain ⟨h1, h2⟩ := (m.sat y).1 hy
  intro a ha
  have o := ok a ha
  have := h1 a ha
  unfold lhs at this ⊢
  have o1 := o.a0
  have o2 := o.an
  rw [h2 a.A.toNat (by omega)] at this
  by_cases hq : a.Q = 0
  · rw [hq] at this ⊢
    omega
  · obtain ⟨b0, b1, b2⟩ := o.b1 hq
    rw [h2 a.B.toNat (by omega)] at this
    exact this
end Go.Proofs.Ytnjbahiaelehkaa
