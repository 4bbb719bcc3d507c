/- The reference's matrix of least differences, plainly: its lines, its rounds, its halves, and what it tells. -/
import Derived.Test.YtnjbahiaelehkaaA7
namespace Go.Proofs.Ytnjbahiaelehkaa

abbrev RF : Int := 1125899906842624
theorem rfv : RF = 1125899906842624 := rfl
theorem ffv : FF = 1152921504606846976 := rfl

def setM (m : Nat → Nat → Int) (i j : Nat) (v : Int) : Nat → Nat → Int := fun a b => if a = i ∧ b = j then v else m a b
theorem setM_self {m : Nat → Nat → Int} {i j : Nat} : setM m i j (m i j) = m := by
  funext a b
  unfold setM
  split
  · rename_i h; rw [h.1, h.2]
  · rfl
theorem setM_at {m : Nat → Nat → Int} {i j : Nat} {v : Int} : setM m i j v i j = v := by simp [setM]
theorem setM_ne {m : Nat → Nat → Int} {i j a b : Nat} {v : Int} (h : ¬(a = i ∧ b = j)) : setM m i j v a b = m a b := by simp [setM, h]

/-- The reference's matrix tells what the ways tell, turned. -/
structure Trn (N : Nat) (m D : Nat → Nat → Int) : Prop where
  dia : ∀ i, i < N → m i i = 0
  off : ∀ i j, i < N → j < N → i ≠ j → m i j = if D j i = FF then RF else D j i
  bd : ∀ i j, i < N → j < N → i ≠ j → D j i ≠ FF → -1000000000 ≤ D j i ∧ D j i ≤ 1000000000

theorem Trn.lt {N : Nat} {m D : Nat → Nat → Int} (h : Trn N m D) {i j : Nat} (hi : i < N) (hj : j < N) (hij : i ≠ j) : m i j < RF ↔ D j i ≠ FF := by
  have hR := rfv
  rw [h.off i j hi hj hij]
  split
  · rename_i e; exact ⟨fun h => absurd h (by omega), fun h => absurd e h⟩
  · rename_i e; have := h.bd i j hi hj hij e; exact ⟨fun _ => e, fun _ => by omega⟩
theorem Trn.eq {N : Nat} {m D : Nat → Nat → Int} (h : Trn N m D) {i j : Nat} (hi : i < N) (hj : j < N) (hij : i ≠ j) (hf : D j i ≠ FF) : m i j = D j i := by
  rw [h.off i j hi hj hij, if_neg hf]
theorem Trn.fa {N : Nat} {m D : Nat → Nat → Int} (h : Trn N m D) {i j : Nat} (hi : i < N) (hj : j < N) (hij : i ≠ j) (hf : D j i = FF) : m i j = RF := by
  rw [h.off i j hi hj hij, if_pos hf]

theorem lessD_at {D : Nat → Nat → Int} {i j : Nat} {c : Int} : lessD D i j c i j = if c < D i j then c else D i j := by
  unfold lessD
  by_cases h : c < D i j
  · rw [if_pos h, if_pos h]
    exact if_pos ⟨rfl, rfl⟩
  · rw [if_neg h, if_neg h]
theorem lessD_ne {D : Nat → Nat → Int} {i j a b : Nat} {c : Int} (h : ¬(a = i ∧ b = j)) : lessD D i j c a b = D a b := by
  unfold lessD
  by_cases hlt : c < D i j
  · rw [if_pos hlt]
    exact if_neg h
  · rw [if_neg hlt]
/-- A line's bound is put in. -/
theorem Trn.less {N : Nat} {m D : Nat → Nat → Int} (h : Trn N m D) {i j : Nat} {c v : Int} (hi : i < N) (hj : j < N) (hij : i ≠ j) (hc : -1000000000 ≤ c ∧ c ≤ 1000000000) (hv : v = min (m i j) c) : Trn N (setM m i j v) (lessD D j i c) := by
  have hF := ffv
  have hR := rfv
  subst hv
  refine ⟨fun a ha => ?_, fun a b ha hb hab => ?_, fun a b ha hb hab hf => ?_⟩
  · rw [setM_ne (by omega)]; exact h.dia a ha
  · by_cases e : a = i ∧ b = j
    · obtain ⟨rfl, rfl⟩ := e
      rw [setM_at, lessD_at, h.off a b hi hj hij]
      by_cases hf : D b a = FF
      · rw [if_pos hf, if_pos (by omega : c < D b a), if_neg (by omega)]
        omega
      · have := h.bd a b hi hj hij hf
        rw [if_neg hf]
        by_cases hlt : c < D b a
        · rw [if_pos hlt, if_neg (by omega)]
          omega
        · rw [if_neg hlt, if_neg hf]
          omega
    · rw [setM_ne e, lessD_ne (fun h => e ⟨h.2, h.1⟩)]
      exact h.off a b ha hb hab
  · by_cases e : a = i ∧ b = j
    · obtain ⟨rfl, rfl⟩ := e
      rw [lessD_at] at hf ⊢
      by_cases hlt : c < D b a
      · rw [if_pos hlt]
        exact hc
      · rw [if_neg hlt] at hf ⊢
        exact h.bd a b hi hj hij hf
    · rw [lessD_ne (fun h => e ⟨h.2, h.1⟩)] at hf ⊢
      exact h.bd a b ha hb hab hf

/-- What is put into the reference's matrix of the first k lines. -/
def BegR (l : List AM) (n k : Nat) (m : Nat → Nat → Int) : Prop := ∃ D T, Cov l (Upto l k) D T ∧ Trn (2 * n) m D
theorem Cov.none (l : List AM) : Cov l (Upto l 0) (fun _ _ => FF) (fun _ _ => .line 0) := by
  refine ⟨fun i j h => absurd rfl h, fun i j c h => ?_⟩
  obtain ⟨X, hX⟩ := h
  cases hX with
  | un t a h hq => simp at h
  | bi t a h hq => simp at h
  | bj t a h hq => simp at h
theorem BegR.start {l : List AM} {n : Nat} {m : Nat → Nat → Int} (h : ∀ i j, i < 2 * n → j < 2 * n → m i j = if i = j then 0 else RF) : BegR l n 0 m := by
  refine ⟨_, _, Cov.none l, fun i hi => by rw [h i i hi hi, if_pos rfl], fun i j hi hj hij => by rw [h i j hi hj, if_neg hij, if_pos rfl], fun i j _ _ _ hf => absurd rfl hf⟩

theorem nd_neg {k q : Int} (hq : q = 1 ∨ q = -1) : nd k (-q) = ot (nd k q) := by
  unfold nd ot
  rcases hq with rfl | rfl <;> simp <;> split <;> omega

theorem BegR.line {l : List AM} {n k : Nat} {m : Nat → Nat → Int} (ok : ∀ a, a ∈ l → Ok n 1000000 a) (h : BegR l n k m) (hk : k < l.length) {a b : Nat} {c : Int}
    (ha : a = nd l[k].A l[k].P) (hb : b = if l[k].Q = 0 then nd l[k].A l[k].P else nd l[k].B l[k].Q) (hc : c = if l[k].Q = 0 then 2 * l[k].M else l[k].M)
    {v1 v2 : Int} (h1 : v1 = min (m (ot b) a) c) (h2 : v2 = min (setM m (ot b) a v1 (ot a) b) c) : BegR l n (k + 1) (setM (setM m (ot b) a v1) (ot a) b v2) ∧ a < 2 * n ∧ b < 2 * n := by
  obtain ⟨D, T, hcov, ht⟩ := h
  have o := ok l[k] (List.getElem_mem hk)
  have la : a < 2 * n := by rw [ha]; exact nd_lt o.a0 o.an
  have := o.lo
  have := o.hi
  have hF := ffv
  have hR := rfv
  by_cases hq : l[k].Q = 0
  · rw [if_pos hq] at hb hc
    have hba : b = a := by rw [hb, ha]
    subst hba
    have lo := ot_lt la
    have t1 := ht.less lo la (ot_ne b) (by omega) h1
    have t2 := t1.less lo la (ot_ne b) (by omega) h2
    have c1 := Cov.un hk hcov hq (by omega)
    refine ⟨⟨_, _, c1, ?_⟩, la, la⟩
    rw [← ha, ← hc]
    have e : lessD (lessD D b (ot b) c) b (ot b) c = lessD D b (ot b) c := by
      unfold lessD
      by_cases hlt : c < D b (ot b)
      · simp [hlt]
      · simp [hlt]
    rw [e] at t2
    exact t2
  · rw [if_neg hq] at hb hc
    obtain ⟨b0, b1, b2⟩ := o.b1 hq
    have hq' : l[k].Q = 1 ∨ l[k].Q = -1 := by have := o.q; omega
    have lb : b < 2 * n := by rw [hb]; exact nd_lt b0 b1
    have hab : a ≠ ot b := by
      rw [ha, hb, ← nd_neg hq']
      have := o.a0
      unfold nd
      repeat' split
      all_goals omega
    have hba : b ≠ ot a := fun e => hab (by rw [e, ot_ot])
    have t1 := ht.less (ot_lt lb) la (Ne.symm hab) (by omega) h1
    have t2 := t1.less (ot_lt la) lb (Ne.symm hba) (by omega) h2
    have c1 := Cov.bj hk hq (by omega) (Cov.bi hk hcov hq (by omega))
    refine ⟨⟨_, _, c1, ?_⟩, la, lb⟩
    rw [nd_neg hq', ← ha, ← hb, ← hc, ot_ot]
    exact t2

/-- The reference's matrix behind k rounds, if no diagonal has gone below. -/
def GoodR (l : List AM) (n k : Nat) (m : Nat → Nat → Int) : Prop := ∃ D T, Stage FF l (2 * n) k D T ∧ Trn (2 * n) m D
/-- A diagonal has gone below: no numbers fit. -/
def BadR (l : List AM) (N : Nat) (m : Nat → Nat → Int) : Prop := possB l = false ∧ ∃ i, i < N ∧ m i i < 0
theorem BegR.good {l : List AM} {n : Nat} {m : Nat → Nat → Int} (h : BegR l n l.length m) : GoodR l n 0 m := by
  obtain ⟨D, T, hc, ht⟩ := h
  exact ⟨D, T, hc.stage, ht⟩

def roundR (m : Nat → Nat → Int) (k a b : Nat) : Int := if m a k < RF ∧ m k b < RF then min (m a b) (m a k + m k b) else m a b
/-- In the midst of a round. -/
def InR (l : List AM) (n k i j : Nat) (m : Nat → Nat → Int) : Prop :=
  BadR l (2 * n) m ∨ ∃ m0, GoodR l n k m0 ∧ ∀ a b, a < 2 * n → b < 2 * n → m a b = if a < i ∨ (a = i ∧ b < j) then roundR m0 k a b else m0 a b

theorem GoodR.col {l : List AM} {n k : Nat} {m : Nat → Nat → Int} (h : GoodR l n k m) (hk : k < 2 * n) (a : Nat) : roundR m k a k = m a k := by
  obtain ⟨D, T, _, ht⟩ := h
  have := ht.dia k hk
  unfold roundR
  split <;> omega
theorem GoodR.row {l : List AM} {n k : Nat} {m : Nat → Nat → Int} (h : GoodR l n k m) (hk : k < 2 * n) (b : Nat) : roundR m k k b = m k b := by
  obtain ⟨D, T, _, ht⟩ := h
  have := ht.dia k hk
  unfold roundR
  split <;> omega
theorem Trn.small {N : Nat} {m D : Nat → Nat → Int} (h : Trn N m D) {i j : Nat} (hi : i < N) (hj : j < N) (hl : m i j < RF) : -1000000000 ≤ m i j ∧ m i j ≤ 1000000000 := by
  by_cases hij : i = j
  · subst hij; rw [h.dia i hi]; omega
  · have hf := (h.lt hi hj hij).1 hl
    rw [h.eq hi hj hij hf]
    exact h.bd i j hi hj hij hf

/-- What a step of a round makes of a cell. -/
structure CellR (m : Nat → Nat → Int) (k i j : Nat) (v : Int) : Prop where
  le : v ≤ m i j
  both : m i k < RF → m k j < RF → (-2000000000 ≤ m i k + m k j ∧ m i k + m k j ≤ 2000000000) → v = min (m i j) (m i k + m k j)
  not : ¬(m i k < RF ∧ m k j < RF) → v = m i j

theorem InR.put {l : List AM} {n k i j : Nat} {m : Nat → Nat → Int} (h : InR l n k i j m) (hk : k < 2 * n) (hi : i < 2 * n) (hj : j < 2 * n) {v : Int} (hv : CellR m k i j v) : InR l n k i (j + 1) (setM m i j v) := by
  rcases h with ⟨h0, d, hd, hneg⟩ | ⟨m0, hg, hm⟩
  · refine .inl ⟨h0, d, hd, ?_⟩
    by_cases e : d = i ∧ d = j
    · obtain ⟨rfl, rfl⟩ := e
      rw [setM_at]
      have := hv.le
      omega
    · rw [setM_ne e]; exact hneg
  · refine .inr ⟨m0, hg, fun a b ha hb => ?_⟩
    have eik : m i k = m0 i k := by
      rw [hm i k hi hk]
      split
      · exact hg.col hk i
      · rfl
    have ekj : m k j = m0 k j := by
      rw [hm k j hk hj]
      split
      · exact hg.row hk j
      · rfl
    have eij : m i j = m0 i j := by rw [hm i j hi hj, if_neg (by omega)]
    by_cases e : a = i ∧ b = j
    · obtain ⟨rfl, rfl⟩ := e
      rw [setM_at, if_pos (by omega)]
      obtain ⟨D, T, hs, ht⟩ := hg
      unfold roundR
      by_cases hb : m0 a k < RF ∧ m0 k b < RF
      · rw [if_pos hb]
        have s1 := ht.small hi hk hb.1
        have s2 := ht.small hk hj hb.2
        have := hv.both (by omega) (by omega) (by omega)
        omega
      · rw [if_neg hb]
        have := hv.not (by rw [eik, ekj]; exact hb)
        omega
    · rw [setM_ne e, hm a b ha hb]
      by_cases hd : a < i ∨ (a = i ∧ b < j)
      · rw [if_pos hd, if_pos (by omega)]
      · rw [if_neg hd, if_neg (by omega)]
theorem InR.skip {l : List AM} {n k i j : Nat} {m : Nat → Nat → Int} (h : InR l n k i j m) (hk : k < 2 * n) (hi : i < 2 * n) (hj : j < 2 * n) (hn : ¬(m i k < RF ∧ m k j < RF)) : InR l n k i (j + 1) m := by
  have := h.put hk hi hj (v := m i j) ⟨Int.le_refl _, fun h1 h2 => absurd ⟨h1, h2⟩ hn, fun _ => rfl⟩
  rwa [setM_self] at this
theorem InR.next {l : List AM} {n k i : Nat} {m : Nat → Nat → Int} (h : InR l n k i (2 * n) m) : InR l n k (i + 1) 0 m := by
  rcases h with h | ⟨m0, hg, hm⟩
  · exact .inl h
  · refine .inr ⟨m0, hg, fun a b ha hb => ?_⟩
    rw [hm a b ha hb]
    by_cases hd : a < i ∨ (a = i ∧ b < 2 * n)
    · rw [if_pos hd, if_pos (by omega)]
    · rw [if_neg hd, if_neg (by omega)]
theorem InR.start {l : List AM} {n k : Nat} {m : Nat → Nat → Int} (h : GoodR l n k m) : InR l n k 0 0 m := .inr ⟨m, h, fun a b _ _ => by rw [if_neg (by omega)]⟩

theorem InR.over {l : List AM} {n k : Nat} {m : Nat → Nat → Int} (ok : ∀ a, a ∈ l → Ok n 1000000 a) (hn : n ≤ 12) (hk : k < 2 * n) (h : InR l n k (2 * n) 0 m) : InR l n (k + 1) 0 0 m := by
  rcases h with h | ⟨m0, hg, hm⟩
  · exact .inl h
  · have hF := ffv
    have hR := rfv
    have hgg := hg
    obtain ⟨D, T, hs, ht⟩ := hg
    have hm' : ∀ a b, a < 2 * n → b < 2 * n → m a b = roundR m0 k a b := fun a b ha hb => by rw [hm a b ha hb, if_pos (by omega)]
    by_cases hneg : ∃ i, i < 2 * n ∧ m i i < 0
    · refine .inl ⟨?_, hneg⟩
      obtain ⟨i, hi, hlt⟩ := hneg
      rw [hm' i i hi hi] at hlt
      have h0 := ht.dia i hi
      have hik : i ≠ k := by
        rintro rfl
        rw [hgg.col hk] at hlt
        omega
      unfold roundR at hlt
      by_cases hb : m0 i k < RF ∧ m0 k i < RF
      · rw [if_pos hb, h0] at hlt
        have f1 := (ht.lt hi hk hik).1 hb.1
        have f2 := (ht.lt hk hi (Ne.symm hik)).1 hb.2
        rw [ht.eq hi hk hik f1, ht.eq hk hi (Ne.symm hik) f2] at hlt
        obtain ⟨p, hw, _⟩ := hs.why i k hi hk hik f2
        obtain ⟨p', hw', _⟩ := hs.why k i hk hi (Ne.symm hik) f1
        exact ring_noposs ok (Why.sum hw hw') (by omega)
      · rw [if_neg hb] at hlt
        omega
    · have hc : ∀ i, i < 2 * n → i ≠ k → D i k ≠ FF → D k i ≠ FF → 0 ≤ D i k + D k i := by
        intro i hi hik f1 f2
        have hge : ¬m i i < 0 := fun h => hneg ⟨i, hi, h⟩
        rw [hm' i i hi hi] at hge
        unfold roundR at hge
        rw [if_pos ⟨(ht.lt hi hk hik).2 f2, (ht.lt hk hi (Ne.symm hik)).2 f1⟩, ht.eq hi hk hik f2, ht.eq hk hi (Ne.symm hik) f1] at hge
        omega
      have hs' := hs.step ok (by omega) hn (by omega) hk hc
      have hb' : ∀ i j, i < 2 * n → j < 2 * n → i ≠ j → relD FF D k i j ≠ FF → -(46 * 1000000) ≤ relD FF D k i j ∧ relD FF D k i j ≤ 46 * 1000000 := fun i j hi hj hij hf => hs'.bound ok (by omega) hn (by omega) hi hj hij hf
      refine InR.start ⟨_, _, hs', fun i hi => ?_, fun i j hi hj hij => ?_, fun i j hi hj hij hf => ?_⟩
      · have hge : ¬m i i < 0 := fun h => hneg ⟨i, hi, h⟩
        have := ht.dia i hi
        rw [hm' i i hi hi] at hge ⊢
        unfold roundR at hge ⊢
        split at hge
        · rename_i hx; rw [if_pos hx]; omega
        · rename_i hx; rw [if_neg hx]; omega
      · rw [hm' i j hi hj]
        by_cases hik : i = k
        · subst hik
          rw [hgg.row hk, relD_left, ht.off i j hi hj hij]
        · by_cases hjk : j = k
          · subst hjk
            rw [hgg.col hk, relD_right, ht.off i j hi hj hij]
          · unfold roundR relD
            by_cases f1 : D k i = FF
            · have : ¬m0 i k < RF := fun h => (ht.lt hi hk hik).1 h f1
              rw [if_neg (fun h => this h.1), if_pos (show relC FF D k j i from .inr (.inr (.inr (.inr (.inl f1))))), ht.off i j hi hj hij]
            · by_cases f2 : D j k = FF
              · have : ¬m0 k j < RF := fun h => (ht.lt hk hj (Ne.symm hjk)).1 h f2
                rw [if_neg (fun h => this h.2), if_pos (show relC FF D k j i from .inr (.inr (.inr (.inl f2)))), ht.off i j hi hj hij]
              · have g1 := ht.bd i k hi hk hik f1
                have g2 := ht.bd k j hk hj (Ne.symm hjk) f2
                rw [if_pos ⟨(ht.lt hi hk hik).2 f1, (ht.lt hk hj (Ne.symm hjk)).2 f2⟩, ht.eq hi hk hik f1, ht.eq hk hj (Ne.symm hjk) f2, ht.off i j hi hj hij]
                by_cases f3 : D j i = FF
                · have hr : ¬relC FF D k j i := by unfold relC; omega
                  rw [if_pos f3, if_neg hr, if_neg (by omega)]
                  omega
                · have g3 := ht.bd i j hi hj hij f3
                  by_cases hle : D j i ≤ D j k + D k i
                  · have hr : relC FF D k j i := by unfold relC; omega
                    rw [if_neg f3, if_pos hr, if_neg f3]
                    omega
                  · have hr : ¬relC FF D k j i := by unfold relC; omega
                    rw [if_neg f3, if_neg hr, if_neg (by omega)]
                    omega
      · have := hb' j i hj hi (Ne.symm hij) hf
        omega

/-! The halves. -/
/-- The first i rows have their halves. -/
def HalfR (l : List AM) (n i : Nat) (m : Nat → Nat → Int) : Prop :=
  (possB l = false ∧ ∃ d, i ≤ d ∧ d < 2 * n ∧ m d d < 0) ∨ ∃ m0, GoodR l n (2 * n) m0 ∧ ∀ a b, a < 2 * n → b < 2 * n → m a b = if a < i ∧ b = ot a ∧ m0 a b < RF then 2 * (m0 a b / 2) else m0 a b
theorem InR.half {l : List AM} {n : Nat} {m : Nat → Nat → Int} (h : InR l n (2 * n) 0 0 m) : HalfR l n 0 m := by
  rcases h with ⟨h0, d, hd, hn⟩ | ⟨m0, hg, hm⟩
  · exact .inl ⟨h0, d, Nat.zero_le _, hd, hn⟩
  · refine .inr ⟨m0, hg, fun a b ha hb => ?_⟩
    rw [hm a b ha hb, if_neg (by omega), if_neg (by omega)]
theorem HalfR.stop {l : List AM} {n i : Nat} {m : Nat → Nat → Int} (h : HalfR l n i m) (hi : i < 2 * n) (hneg : m i i < 0) : possB l = false := by
  rcases h with ⟨h0, _⟩ | ⟨m0, ⟨D, T, hs, ht⟩, hm⟩
  · exact h0
  · rw [hm i i hi hi, if_neg (by have := ot_ne i; omega), ht.dia i hi] at hneg
    omega
theorem HalfR.skip {l : List AM} {n i : Nat} {m : Nat → Nat → Int} (h : HalfR l n i m) (hi : i < 2 * n) (hpos : ¬m i i < 0) (hf : ¬m i (ot i) < RF) : HalfR l n (i + 1) m := by
  rcases h with ⟨h0, d, hid, hd, hn⟩ | ⟨m0, hg, hm⟩
  · refine .inl ⟨h0, d, ?_, hd, hn⟩
    have : d ≠ i := fun e => hpos (e ▸ hn)
    omega
  · refine .inr ⟨m0, hg, fun a b ha hb => ?_⟩
    rw [hm a b ha hb]
    by_cases e : a = i ∧ b = ot i
    · obtain ⟨rfl, rfl⟩ := e
      have e2 : m a (ot a) = m0 a (ot a) := by rw [hm a _ ha hb, if_neg (by omega)]
      rw [if_neg (by omega), if_neg (by omega)]
    · by_cases hx : a < i ∧ b = ot a ∧ m0 a b < RF
      · rw [if_pos hx, if_pos (by omega)]
      · rw [if_neg hx]
        by_cases hy : a < i + 1 ∧ b = ot a ∧ m0 a b < RF
        · exfalso
          have : a = i := by omega
          subst this
          exact e ⟨rfl, hy.2.1⟩
        · rw [if_neg hy]
theorem HalfR.put {l : List AM} {n i : Nat} {m : Nat → Nat → Int} (h : HalfR l n i m) (hi : i < 2 * n) (hpos : ¬m i i < 0) (hf : m i (ot i) < RF) {v : Int} (hv : -1000000000 ≤ m i (ot i) → m i (ot i) ≤ 1000000000 → v = 2 * (m i (ot i) / 2)) : HalfR l n (i + 1) (setM m i (ot i) v) := by
  have hoi := ot_ne i
  have hol := ot_lt hi
  rcases h with ⟨h0, d, hid, hd, hn⟩ | ⟨m0, hg, hm⟩
  · refine .inl ⟨h0, d, ?_, hd, ?_⟩
    · have : d ≠ i := fun e => hpos (e ▸ hn)
      omega
    · rw [setM_ne (by omega)]; exact hn
  · refine .inr ⟨m0, hg, fun a b ha hb => ?_⟩
    obtain ⟨D, T, hs, ht⟩ := hg
    have e2 : m i (ot i) = m0 i (ot i) := by rw [hm i _ hi hol, if_neg (by omega)]
    by_cases e : a = i ∧ b = ot i
    · obtain ⟨rfl, rfl⟩ := e
      rw [setM_at, if_pos (by omega)]
      have := ht.small ha hb (by omega)
      rw [← e2]
      exact hv (by omega) (by omega)
    · rw [setM_ne e, hm a b ha hb]
      by_cases hx : a < i ∧ b = ot a ∧ m0 a b < RF
      · rw [if_pos hx, if_pos (by omega)]
      · rw [if_neg hx]
        by_cases hy : a < i + 1 ∧ b = ot a ∧ m0 a b < RF
        · exfalso
          have : a = i := by omega
          subst this
          exact e ⟨rfl, hy.2.1⟩
        · rw [if_neg hy]

/-- All rows have their halves; the first i of them are told not to contradict. -/
structure Halved (l : List AM) (n : Nat) (D : Nat → Nat → Int) (T : Nat → Nat → Tr) (m : Nat → Nat → Int) : Prop where
  st : Stage FF l (2 * n) (2 * n) D T
  dia : ∀ i, i < 2 * n → m i i = 0
  two : ∀ i, i < 2 * n → m i (ot i) = if D (ot i) i = FF then RF else 2 * (D (ot i) i / 2)
  off : ∀ i j, i < 2 * n → j < 2 * n → i ≠ j → j ≠ ot i → m i j = if D j i = FF then RF else D j i
  bd : ∀ i j, i < 2 * n → j < 2 * n → i ≠ j → D j i ≠ FF → -1000000000 ≤ D j i ∧ D j i ≤ 1000000000
theorem HalfR.all {l : List AM} {n : Nat} {m : Nat → Nat → Int} (h : HalfR l n (2 * n) m) : ∃ D T, Halved l n D T m := by
  rcases h with ⟨_, d, h1, h2, _⟩ | ⟨m0, ⟨D, T, hs, ht⟩, hm⟩
  · omega
  · refine ⟨D, T, hs, fun i hi => ?_, fun i hi => ?_, fun i j hi hj hij hot => ?_, ht.bd⟩
    · rw [hm i i hi hi, if_neg (by have := ot_ne i; omega)]
      exact ht.dia i hi
    · have hol := ot_lt hi
      have hoi := ot_ne i
      rw [hm i _ hi hol]
      by_cases hf : D (ot i) i = FF
      · rw [if_pos hf, ht.fa hi hol (Ne.symm hoi) hf, if_neg (by omega)]
      · rw [if_neg hf, if_pos ⟨hi, rfl, (ht.lt hi hol (Ne.symm hoi)).2 hf⟩, ht.eq hi hol (Ne.symm hoi) hf]
    · rw [hm i j hi hj, if_neg (by omega)]
      exact ht.off i j hi hj hij
section
variable {l : List AM} {n : Nat} {D : Nat → Nat → Int} {T : Nat → Nat → Tr} {m : Nat → Nat → Int}
theorem Halved.twoLt (h : Halved l n D T m) {i : Nat} (hi : i < 2 * n) : (m i (ot i) < RF ↔ D (ot i) i ≠ FF) ∧ (D (ot i) i ≠ FF → m i (ot i) = 2 * (D (ot i) i / 2) ∧ -1000000001 ≤ m i (ot i) ∧ m i (ot i) ≤ 1000000000) := by
  have hR := rfv
  have e := h.two i hi
  by_cases hf : D (ot i) i = FF
  · rw [if_pos hf] at e
    exact ⟨⟨fun h => absurd h (by omega), fun h => absurd hf h⟩, fun h => absurd hf h⟩
  · rw [if_neg hf] at e
    have := h.bd i (ot i) hi (ot_lt hi) (Ne.symm (ot_ne i)) hf
    exact ⟨⟨fun _ => hf, fun _ => by omega⟩, fun _ => by omega⟩
theorem Halved.clash (h : Halved l n D T m) (ok : ∀ a, a ∈ l → Ok n 1000000 a) {i : Nat} (hi : i < 2 * n) (h1 : m i (ot i) < RF) (h2 : m (ot i) i < RF) (hs : m i (ot i) + m (ot i) i < 0) : possB l = false := by
  have hol := ot_lt hi
  obtain ⟨a1, a2⟩ := h.twoLt hi
  obtain ⟨b1, b2⟩ := h.twoLt hol
  rw [ot_ot] at b1 b2
  have f1 := a1.1 h1
  have f2 := b1.1 h2
  have e1 := (a2 f1).1
  have e2 := (b2 f2).1
  have hfin : Fin FF 1000000 l n D T := ⟨ok, h.st⟩
  refine hfin.noposs (fun ht => ?_)
  have := ht i hi f2 f1
  omega
theorem Halved.tight (h : Halved l n D T m) (hc : ∀ i, i < 2 * n → m i (ot i) < RF → m (ot i) i < RF → 0 ≤ m i (ot i) + m (ot i) i) : Tight FF n D := by
  intro i hi f1 f2
  have hol := ot_lt hi
  obtain ⟨a1, a2⟩ := h.twoLt hi
  obtain ⟨b1, b2⟩ := h.twoLt hol
  rw [ot_ot] at b1 b2
  have e1 := (a2 f2).1
  have e2 := (b2 f1).1
  have := hc i hi (a1.2 f2) (b1.2 f1)
  omega

def finR (m : Nat → Nat → Int) (a b : Nat) : Int := if m a (ot a) < RF ∧ m (ot b) b < RF then min (m a b) ((m a (ot a) + m (ot b) b).tdiv 2) else m a b
theorem even_tdiv {x y : Int} : (2 * x + 2 * y).tdiv 2 = x + y := by
  rw [← Int.mul_add, Int.mul_tdiv_cancel_left _ (by decide)]
theorem Halved.fin_two (h : Halved l n D T m) {i : Nat} (hi : i < 2 * n) : finR m i (ot i) = m i (ot i) := by
  obtain ⟨a1, a2⟩ := h.twoLt hi
  unfold finR
  rw [ot_ot]
  split
  · rename_i hx
    rw [(a2 (a1.1 hx.1)).1, even_tdiv]
    omega
  · rfl
/-- In the midst of the last round. -/
def LastR (N i j : Nat) (m m' : Nat → Nat → Int) : Prop := ∀ a b, a < N → b < N → m' a b = if a < i ∨ (a = i ∧ b < j) then finR m a b else m a b
theorem LastR.start {N : Nat} {m : Nat → Nat → Int} : LastR N 0 0 m m := fun a b _ _ => by rw [if_neg (by omega)]
theorem LastR.next {N i : Nat} {m m' : Nat → Nat → Int} (h : LastR N i N m m') : LastR N (i + 1) 0 m m' := fun a b ha hb => by
  rw [h a b ha hb]
  by_cases hd : a < i ∨ (a = i ∧ b < N)
  · rw [if_pos hd, if_pos (by omega)]
  · rw [if_neg hd, if_neg (by omega)]
theorem LastR.two (h : Halved l n D T m) {i j : Nat} {m' : Nat → Nat → Int} (hl : LastR (2 * n) i j m m') {a : Nat} (ha : a < 2 * n) : m' a (ot a) = m a (ot a) := by
  rw [hl a _ ha (ot_lt ha)]
  split
  · exact h.fin_two ha
  · rfl
theorem LastR.two' (h : Halved l n D T m) {i j : Nat} {m' : Nat → Nat → Int} (hl : LastR (2 * n) i j m m') {b : Nat} (hb : b < 2 * n) : m' (ot b) b = m (ot b) b := by
  have := LastR.two h hl (ot_lt hb)
  rwa [ot_ot] at this
theorem LastR.put (h : Halved l n D T m) {i j : Nat} {m' : Nat → Nat → Int} (hl : LastR (2 * n) i j m m') (hi : i < 2 * n) (hj : j < 2 * n) (h1 : m' i (ot i) < RF) (h2 : m' (ot j) j < RF) {v : Int} (hv : v = min (m' i j) ((m' i (ot i) + m' (ot j) j).tdiv 2)) : LastR (2 * n) i (j + 1) m (setM m' i j v) := by
  intro a b ha hb
  have e1 := LastR.two h hl hi
  have e2 := LastR.two' h hl hj
  have e3 : m' i j = m i j := by rw [hl i j hi hj, if_neg (by omega)]
  by_cases e : a = i ∧ b = j
  · obtain ⟨rfl, rfl⟩ := e
    rw [setM_at, if_pos (by omega), hv]
    unfold finR
    rw [e1, e2, e3, if_pos ⟨by omega, by omega⟩]
  · rw [setM_ne e, hl a b ha hb]
    by_cases hd : a < i ∨ (a = i ∧ b < j)
    · rw [if_pos hd, if_pos (by omega)]
    · rw [if_neg hd, if_neg (by omega)]
theorem LastR.skip (h : Halved l n D T m) {i j : Nat} {m' : Nat → Nat → Int} (hl : LastR (2 * n) i j m m') (hi : i < 2 * n) (hj : j < 2 * n) (hn : ¬(m' i (ot i) < RF ∧ m' (ot j) j < RF)) : LastR (2 * n) i (j + 1) m m' := by
  intro a b ha hb
  have e1 := LastR.two h hl hi
  have e2 := LastR.two' h hl hj
  rw [hl a b ha hb]
  by_cases hd : a < i ∨ (a = i ∧ b < j)
  · rw [if_pos hd, if_pos (by omega)]
  · rw [if_neg hd]
    by_cases e : a = i ∧ b = j
    · obtain ⟨rfl, rfl⟩ := e
      rw [if_pos (by omega)]
      unfold finR
      rw [if_neg (by omega)]
    · rw [if_neg (by omega)]

/-- What the reference reads off its matrix of a line's left side. -/
def mostR (m : Nat → Nat → Int) (a : AM) : Int :=
  if a.Q = 0 then (if RF ≤ m (ot (nd a.A a.P)) (nd a.A a.P) then RF else m (ot (nd a.A a.P)) (nd a.A a.P) / 2) else m (ot (nd a.B a.Q)) (nd a.A a.P)
/-- What the reference's matrix tells. -/
structure RefT (l : List AM) (n : Nat) (m : Nat → Nat → Int) : Prop where
  poss : possB l = true
  most : ∀ a, Ok n 1000000 a → (∀ k, maxO l a = some k → mostR m a = k ∧ k < RF) ∧ (maxO l a = none → mostR m a = RF)
  small : ∀ i j, i < 2 * n → j < 2 * n → m i j ≤ RF ∧ -2000000000 ≤ m i j
theorem LastR.tells (h : Halved l n D T m) (ok : ∀ a, a ∈ l → Ok n 1000000 a) (ht : Tight FF n D) {i : Nat} {m' : Nat → Nat → Int} (hl : LastR (2 * n) (2 * n) i m m') : RefT l n m' := by
  have hF := ffv
  have hR := rfv
  have hfin : Fin FF 1000000 l n D T := ⟨ok, h.st⟩
  have hall : ∀ a b, a < 2 * n → b < 2 * n → m' a b = finR m a b := fun a b ha hb => by rw [hl a b ha hb, if_pos (by omega)]
  have hsm : ∀ a b, a < 2 * n → b < 2 * n → m a b ≤ RF ∧ -1000000001 ≤ m a b := by
    intro a b ha hb
    by_cases hab : a = b
    · subst hab; rw [h.dia a ha]; omega
    · by_cases hot : b = ot a
      · subst hot
        obtain ⟨a1, a2⟩ := h.twoLt ha
        by_cases hf : D (ot a) a = FF
        · have := h.two a ha; rw [if_pos hf] at this; omega
        · have := a2 hf; omega
      · have := h.off a b ha hb hab hot
        by_cases hf : D b a = FF
        · rw [if_pos hf] at this; omega
        · rw [if_neg hf] at this
          have := h.bd a b ha hb hab hf
          omega
  refine ⟨hfin.poss ht, fun a o => ?_, fun a b ha hb => ?_⟩
  · have hx := nd_lt (s := a.P) o.a0 o.an
    have hxo := ot_lt hx
    rw [hfin.far_max ht o]
    unfold far mostR
    by_cases hq : a.Q = 0
    · rw [if_pos hq, if_pos hq]
      have e1 := LastR.two' h hl hx
      obtain ⟨a1, a2⟩ := h.twoLt hxo
      rw [ot_ot] at a1 a2
      rw [e1]
      by_cases hf : D (nd a.A a.P) (ot (nd a.A a.P)) = FF
      · rw [if_pos hf]
        have : ¬m (ot (nd a.A a.P)) (nd a.A a.P) < RF := fun h => (a1.1 h) hf
        rw [if_pos (by omega)]
        exact ⟨fun k hk => (by cases hk), fun _ => rfl⟩
      · rw [if_neg hf]
        have hlt := a1.2 hf
        have hv := a2 hf
        rw [if_neg (by omega)]
        refine ⟨fun k hk => ?_, fun hk => (by cases hk)⟩
        cases hk
        omega
    · rw [if_neg hq, if_neg hq]
      obtain ⟨b0, b1, b2⟩ := o.b1 hq
      have hq' : a.Q = 1 ∨ a.Q = -1 := by have := o.q; omega
      have hy := nd_lt (s := a.Q) b0 b1
      have hyo := ot_lt hy
      rw [nd_neg hq']
      obtain ⟨x, hxe⟩ : ∃ x, x = nd a.A a.P := ⟨_, rfl⟩
      obtain ⟨y, hye⟩ : ∃ y, y = ot (nd a.B a.Q) := ⟨_, rfl⟩
      have hxy : x / 2 ≠ y / 2 := by
        rw [hxe, hye, ot_div]
        have := o.a0
        unfold nd; repeat' split
        all_goals omega
      have n1 : y ≠ x := fun e => hxy (by rw [e])
      have n2 : x ≠ ot y := fun e => hxy (by rw [e, ot_div])
      rw [← hxe] at hx hxo ⊢
      rw [← hye] at hyo ⊢
      rw [hall y x hyo hx]
      unfold finR
      have eo := h.off y x hyo hx n1 n2
      obtain ⟨a1, a2⟩ := h.twoLt hyo
      obtain ⟨c1, c2⟩ := h.twoLt hxo
      rw [ot_ot] at c1 c2
      unfold bin
      by_cases hor : D x (ot x) = FF ∨ D (ot y) y = FF
      · rw [if_pos hor]
        have : ¬(m y (ot y) < RF ∧ m (ot x) x < RF) := by
          rintro ⟨g1, g2⟩
          rcases hor with e | e
          · exact c1.1 g2 e
          · exact a1.1 g1 e
        rw [if_neg this, eo]
        by_cases hf : D x y = FF
        · rw [if_pos hf, if_pos hf]
          exact ⟨fun k hk => (by cases hk), fun _ => rfl⟩
        · rw [if_neg hf, if_neg hf]
          have := h.bd y x hyo hx n1 hf
          refine ⟨fun k hk => ?_, fun hk => (by cases hk)⟩
          cases hk
          omega
      · rw [if_neg hor]
        simp only [not_or] at hor
        have v1 := a2 hor.2
        have v2 := c2 hor.1
        have b3 := h.bd y (ot y) hyo (ot_lt hyo) (Ne.symm (ot_ne y)) hor.2
        have b4 := h.bd (ot x) x hxo hx (ot_ne x) hor.1
        have hcc : m y (ot y) < RF ∧ m (ot x) x < RF := ⟨a1.2 hor.2, c1.2 hor.1⟩
        rw [if_pos hcc, v1.1, v2.1, even_tdiv, eo]
        by_cases hf : D x y = FF
        · rw [if_pos hf, if_pos (.inl hf)]
          refine ⟨fun k hk => ?_, fun hk => (by cases hk)⟩
          cases hk
          omega
        · have b5 := h.bd y x hyo hx n1 hf
          rw [if_neg hf]
          by_cases hlt : D x (ot x) / 2 + D (ot y) y / 2 < D x y
          · rw [if_pos (.inr hlt)]
            refine ⟨fun k hk => ?_, fun hk => (by cases hk)⟩
            cases hk
            omega
          · rw [if_neg (by omega)]
            refine ⟨fun k hk => ?_, fun hk => (by cases hk)⟩
            cases hk
            omega
  · rw [hall a b ha hb]
    have h1 := hsm a b ha hb
    unfold finR
    split
    · rename_i hx
      obtain ⟨a1, a2⟩ := h.twoLt ha
      obtain ⟨c1, c2⟩ := h.twoLt (ot_lt hb)
      rw [ot_ot] at c1 c2
      have v1 := a2 (a1.1 hx.1)
      have v2 := c2 (c1.1 hx.2)
      rw [v1.1, v2.1, even_tdiv]
      omega
    · omega
end
end Go.Proofs.Ytnjbahiaelehkaa
