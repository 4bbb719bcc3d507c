/- Plain facts: the greatest that fits lines is what least ways say (no program in sight). -/
import Derived.Test.YtnjbahiaelehkaaM2
namespace Go.Proofs.Ytnjbahiaelehkaa

variable {F Mx : Int} {l : List AM} {n : Nat} {D : Nat → Nat → Int} {T : Nat → Nat → Tr}

theorem Fin.sat (h : Fin F Mx l n D T) (ht : Tight F n D) : ∃ x, Sat l x := by
  obtain ⟨y, hy, _⟩ := Part.all h ht (V := fun _ => False) (x := fun _ => 0) ⟨fun _ _ hv => hv.elim, fun _ _ _ _ _ hv => hv.elim⟩
  exact ⟨y, hy⟩

theorem Fin.unary (h : Fin F Mx l n D T) {x : Nat → Int} (hx : Sat l x) {i : Nat} (hi : i < 2 * n) (hf : D i (ot i) ≠ F) : vl x i ≤ D i (ot i) / 2 := by
  have := h.sound hx hi (ot_lt hi) (Ne.symm (ot_ne i)) hf
  rw [vl_ot] at this
  omega

theorem Fin.unsat (h : Fin F Mx l n D T) (ht : ¬Tight F n D) : ¬∃ x, Sat l x := by
  rintro ⟨x, hx⟩
  apply ht
  intro i hi f1 f2
  have h1 := h.unary hx hi f1
  have h2 := h.unary hx (ot_lt hi) (by rw [ot_ot]; exact f2)
  rw [vl_ot, ot_ot] at h2
  omega

theorem vl_two {i : Nat} {k : Nat} {x : Nat → Int} {s : Int} (hk : i / 2 = k) (hx : x k = if i % 2 = 0 then s else -s) : vl x i = s := by
  unfold vl; rw [hk, hx]; split <;> omega

theorem Fin.att1 (h : Fin F Mx l n D T) (ht : Tight F n D) {i : Nat} (_hi : i < 2 * n) {s : Int} (h1 : D i (ot i) ≠ F → s ≤ D i (ot i) / 2) (h2 : D (ot i) i ≠ F → -s ≤ D (ot i) i / 2) :
    ∃ y, Sat l y ∧ vl y i = s := by
  have e : vl (fun _ => if i % 2 = 0 then s else -s) i = s := vl_two rfl rfl
  obtain ⟨y, hy, hk⟩ := Part.all h ht (V := fun k => k = i / 2) (x := fun _ => if i % 2 = 0 then s else -s) (by
    refine ⟨?_, ?_⟩
    · intro a ha hv hf
      rcases same_half hv with rfl | rfl
      · rw [e]; exact h1 hf
      · rw [vl_ot, e]; rw [ot_ot] at hf ⊢; exact h2 hf
    · intro a b ha hb hab hv hv' hf
      rcases same_half hv with rfl | rfl <;> rcases same_half hv' with rfl | rfl
      · exact absurd rfl hab
      · rw [vl_ot, e]; have := h1 hf; omega
      · rw [vl_ot, e]; have := h2 hf; omega
      · exact absurd rfl hab)
  refine ⟨y, hy, ?_⟩
  rw [← e]
  unfold vl
  rw [hk _ rfl]

/-- Two unknowns at once. -/
theorem Fin.att2 (h : Fin F Mx l n D T) (ht : Tight F n D) {i j : Nat} (hi : i < 2 * n) (hj : j < 2 * n) (hij : i / 2 ≠ j / 2) {s t : Int}
    (h1 : D i (ot i) ≠ F → s ≤ D i (ot i) / 2) (h2 : D (ot i) i ≠ F → -s ≤ D (ot i) i / 2) (h3 : D j (ot j) ≠ F → t ≤ D j (ot j) / 2) (h4 : D (ot j) j ≠ F → -t ≤ D (ot j) j / 2)
    (h5 : D i j ≠ F → s - t ≤ D i j) (h6 : D j i ≠ F → t - s ≤ D j i) (h7 : D i (ot j) ≠ F → s + t ≤ D i (ot j)) (h8 : D (ot i) j ≠ F → -s - t ≤ D (ot i) j) :
    ∃ y, Sat l y ∧ vl y i = s ∧ vl y j = t := by
  let x : Nat → Int := fun k => if k = i / 2 then (if i % 2 = 0 then s else -s) else (if j % 2 = 0 then t else -t)
  have e1 : vl x i = s := vl_two rfl (by simp [x])
  have e2 : vl x j = t := vl_two rfl (by simp [x, Ne.symm hij])
  have nij : i ≠ j := fun e => hij (by rw [e])
  have nio : i ≠ ot j := fun e => hij (by rw [e, ot_div])
  have noj : ot i ≠ j := fun e => hij (by rw [← e, ot_div])
  have noo : ot i ≠ ot j := fun e => nij (ot_inj e)
  obtain ⟨y, hy, hk⟩ := Part.all h ht (V := fun k => k = i / 2 ∨ k = j / 2) (x := x) (by
    refine ⟨?_, ?_⟩
    · intro a ha hv hf
      rcases hv with hv | hv <;> rcases same_half hv with rfl | rfl
      · rw [e1]; exact h1 hf
      · rw [vl_ot, e1]; rw [ot_ot] at hf ⊢; exact h2 hf
      · rw [e2]; exact h3 hf
      · rw [vl_ot, e2]; rw [ot_ot] at hf ⊢; exact h4 hf
    · intro a b ha hb hab hv hv' hf
      have c1 := h.coh hj hi (Ne.symm nij)
      have c2 := h.coh hi (ot_lt hj) nio
      have c3 := h.coh (ot_lt hi) hj noj
      have c4 := h.coh hi hj nij
      rw [ot_ot] at c2 c3
      have v1 := vl_ot x i
      have v2 := vl_ot x j
      rcases hv with hv | hv <;> rcases same_half hv with e | e <;> rcases hv' with hv' | hv' <;> rcases same_half hv' with e' | e' <;> rw [e, e'] at hf hab ⊢
      · exact absurd rfl hab
      · have := h1 hf; omega
      · have := h5 hf; omega
      · have := h7 hf; omega
      · have := h2 hf; omega
      · exact absurd rfl hab
      · have := h8 hf; omega
      · rw [c1] at hf ⊢; have := h6 hf; omega
      · have := h6 hf; omega
      · rw [c2] at hf ⊢; have := h7 hf; omega
      · exact absurd rfl hab
      · have := h3 hf; omega
      · rw [c3] at hf ⊢; have := h8 hf; omega
      · rw [c4] at hf ⊢; have := h5 hf; omega
      · have := h4 hf; omega
      · exact absurd rfl hab)
  refine ⟨y, hy, ?_, ?_⟩
  · rw [← e1]; unfold vl; rw [hk _ (.inl rfl)]
  · rw [← e2]; unfold vl; rw [hk _ (.inr rfl)]

theorem Fin.max1 (h : Fin F Mx l n D T) (ht : Tight F n D) {i : Nat} (hi : i < 2 * n) (hf : D i (ot i) ≠ F) : ∃ y, Sat l y ∧ vl y i = D i (ot i) / 2 := by
  refine h.att1 ht hi (fun _ => Int.le_refl _) (fun hg => ?_)
  have := ht i hi hf hg
  omega

theorem Fin.unb1 (h : Fin F Mx l n D T) (ht : Tight F n D) {i : Nat} (hi : i < 2 * n) (hf : D i (ot i) = F) (C : Int) : ∃ y, Sat l y ∧ C ≤ vl y i := by
  by_cases hg : -(D (ot i) i / 2) ≤ C
  · obtain ⟨y, hy, e⟩ := h.att1 ht hi (s := C) (fun h => absurd hf h) (fun _ => by omega)
    exact ⟨y, hy, by omega⟩
  · obtain ⟨y, hy, e⟩ := h.att1 ht hi (s := -(D (ot i) i / 2)) (fun h => absurd hf h) (fun _ => by omega)
    exact ⟨y, hy, by omega⟩

/-- What is told of the difference of two ends. -/
def bin (F : Int) (D : Nat → Nat → Int) (i j : Nat) : Option Int :=
  if D i (ot i) = F ∨ D (ot j) j = F then (if D i j = F then none else some (D i j))
  else if D i j = F ∨ D i (ot i) / 2 + D (ot j) j / 2 < D i j then some (D i (ot i) / 2 + D (ot j) j / 2) else some (D i j)

theorem Fin.bin_le (h : Fin F Mx l n D T) {x : Nat → Int} (hx : Sat l x) {i j : Nat} (hi : i < 2 * n) (hj : j < 2 * n) (hij : i ≠ j) {m : Int} (hm : bin F D i j = some m) : vl x i - vl x j ≤ m := by
  have a1 := fun hf => h.unary hx hi hf
  have a2 := fun hf => h.unary hx (ot_lt hj) hf
  rw [ot_ot, vl_ot] at a2
  have a3 := fun hf => h.sound hx hi hj hij hf
  unfold bin at hm
  repeat' split at hm
  · cases hm
  · cases hm; exact a3 ‹_›
  · cases hm
    rename_i h1 _
    simp only [not_or] at h1
    have := a1 h1.1; have := a2 h1.2; omega
  · cases hm
    rename_i h1
    simp only [not_or] at h1
    exact a3 h1.1

/-- A half is no more than a way to another half. -/
theorem Fin.via (h : Fin F Mx l n D T) {a b : Nat} (ha : a < 2 * n) (hb : b < 2 * n) (hab : a / 2 ≠ b / 2) (f1 : D a b ≠ F) (f2 : D b (ot b) ≠ F) : D a (ot a) ≠ F ∧ D a (ot a) / 2 ≤ D a b + D b (ot b) / 2 := by
  have n1 : a ≠ b := fun e => hab (by rw [e])
  have n2 : a ≠ ot b := fun e => hab (by rw [e, ot_div])
  have n3 : ot a ≠ ot b := fun e => n1 (ot_inj e)
  obtain ⟨g1, g2⟩ := h.tri hb ha (ot_lt hb) n1 (ot_ne b) n2 f1 f2
  have c := h.coh ha hb n1
  obtain ⟨g3, g4⟩ := h.tri (ot_lt hb) ha (ot_lt ha) n2 n3 (Ne.symm (ot_ne a)) g1 (by rw [c]; exact f1)
  exact ⟨g3, by omega⟩
/-- Two ways to a number and its opposite. -/
theorem Fin.both (h : Fin F Mx l n D T) {a b : Nat} (ha : a < 2 * n) (hb : b < 2 * n) (hab : a / 2 ≠ b / 2) (f1 : D a b ≠ F) (f2 : D a (ot b) ≠ F) : D a (ot a) ≠ F ∧ D a (ot a) ≤ D a b + D a (ot b) := by
  have n1 : a ≠ b := fun e => hab (by rw [e])
  have n2 : a ≠ ot b := fun e => hab (by rw [e, ot_div])
  have n3 : ot a ≠ b := fun e => hab (by rw [← e, ot_div])
  have c := h.coh ha (ot_lt hb) n2
  rw [ot_ot] at c
  obtain ⟨g3, g4⟩ := h.tri hb ha (ot_lt ha) n1 n3 (Ne.symm (ot_ne a)) f1 (by rw [c]; exact f2)
  exact ⟨g3, by omega⟩
theorem Fin.cyc (h : Fin F Mx l n D T) {a b : Nat} (ha : a < 2 * n) (hb : b < 2 * n) (hab : a ≠ b) (f1 : D a b ≠ F) (f2 : D b a ≠ F) : 0 ≤ D a b + D b a := h.round hb ha hab f1 f2

structure M2F (F m dij dji dijb dibj di dib dj djb : Int) : Prop where
  m1 : dij ≠ F → m ≤ dij
  m2 : di ≠ F → djb ≠ F → m ≤ di / 2 + djb / 2
  m3 : (dij ≠ F ∧ m = dij) ∨ (di ≠ F ∧ djb ≠ F ∧ m = di / 2 + djb / 2)
  t1 : di ≠ F → dib ≠ F → 0 ≤ di / 2 + dib / 2
  t2 : dj ≠ F → djb ≠ F → 0 ≤ dj / 2 + djb / 2
  p1 : dij ≠ F → dj ≠ F → di ≠ F ∧ di / 2 ≤ dij + dj / 2
  p2 : dijb ≠ F → djb ≠ F → di ≠ F ∧ di / 2 ≤ dijb + djb / 2
  p3 : dibj ≠ F → di ≠ F → djb ≠ F ∧ djb / 2 ≤ dibj + di / 2
  p4 : dji ≠ F → di ≠ F → dj ≠ F ∧ dj / 2 ≤ dji + di / 2
  q1 : dij ≠ F → dijb ≠ F → di ≠ F ∧ di ≤ dij + dijb
  q2 : dibj ≠ F → dij ≠ F → djb ≠ F ∧ djb ≤ dij + dibj
  r1 : dijb ≠ F → dibj ≠ F → 0 ≤ dijb + dibj
  r2 : dij ≠ F → dji ≠ F → 0 ≤ dij + dji

theorem M2F.solve {F m dij dji dijb dibj di dib dj djb : Int} (f : M2F F m dij dji dijb dibj di dib dj djb) :
    ∃ s, (di ≠ F → s ≤ di / 2) ∧ (dib ≠ F → -s ≤ dib / 2) ∧ (dj ≠ F → s - m ≤ dj / 2) ∧ (djb ≠ F → -(s - m) ≤ djb / 2) ∧ (dij ≠ F → s - (s - m) ≤ dij) ∧ (dji ≠ F → s - m - s ≤ dji) ∧ (dijb ≠ F → s + (s - m) ≤ dijb) ∧ (dibj ≠ F → -s - (s - m) ≤ dibj) := by
  obtain ⟨s, hlo, hhi⟩ := helly 3
    (fun a => if a = 0 then dib ≠ F else if a = 1 then djb ≠ F else dibj ≠ F)
    (fun a => if a = 0 then di ≠ F else if a = 1 then dj ≠ F else dijb ≠ F)
    (fun a => if a = 0 then -(dib / 2) else if a = 1 then m - djb / 2 else (m - dibj + 1) / 2)
    (fun a => if a = 0 then di / 2 else if a = 1 then m + dj / 2 else (m + dijb) / 2) (by
      intro a b ha hb pa pb
      have ea : a = 0 ∨ a = 1 ∨ a = 2 := by omega
      have eb : b = 0 ∨ b = 1 ∨ b = 2 := by omega
      rcases ea with rfl | rfl | rfl <;> rcases eb with rfl | rfl | rfl <;> simp only [if_true, if_false, Nat.one_ne_zero, Nat.reduceEqDiff, Nat.zero_ne_one, reduceCtorEq] at pa pb ⊢
      · have := f.t1 pb pa; omega
      · rcases f.m3 with ⟨g1, g2⟩ | ⟨g1, g2, g3⟩
        · obtain ⟨k1, k2⟩ := f.p1 g1 pb; have := f.t1 k1 pa; omega
        · have := f.t1 g1 pa; have := f.t2 pb g2; omega
      · rcases f.m3 with ⟨g1, g2⟩ | ⟨g1, g2, g3⟩
        · obtain ⟨k1, k2⟩ := f.q1 g1 pb; have := f.t1 k1 pa; omega
        · obtain ⟨k1, k2⟩ := f.p2 pb g2; have := f.t1 g1 pa; omega
      · have := f.m2 pb pa; omega
      · have := f.t2 pb pa; omega
      · obtain ⟨k1, k2⟩ := f.p2 pb pa; have := f.m2 k1 pa; omega
      · obtain ⟨k1, k2⟩ := f.p3 pa pb; have := f.m2 pb k1; omega
      · rcases f.m3 with ⟨g1, g2⟩ | ⟨g1, g2, g3⟩
        · obtain ⟨k1, k2⟩ := f.q2 pa g1; have := f.t2 pb k1; omega
        · obtain ⟨k1, k2⟩ := f.p3 pa g1; have := f.t2 pb g2; omega
      · have := f.r1 pb pa
        rcases f.m3 with ⟨g1, g2⟩ | ⟨g1, g2, g3⟩
        · obtain ⟨k1, k2⟩ := f.q1 g1 pb; obtain ⟨k3, k4⟩ := f.q2 pa g1; have := f.m2 k1 k3; omega
        · obtain ⟨k1, k2⟩ := f.p2 pb g2; obtain ⟨k3, k4⟩ := f.p3 pa g1; omega)
  refine ⟨s, fun hf => ?_, fun hf => ?_, fun hf => ?_, fun hf => ?_, fun hf => ?_, fun hf => ?_, fun hf => ?_, fun hf => ?_⟩
  · have := hhi 0 (by omega) (by simpa using hf); simpa using this
  · have := hlo 0 (by omega) (by simpa using hf); simp at this; omega
  · have := hhi 1 (by omega) (by simpa using hf); simp at this; omega
  · have := hlo 1 (by omega) (by simpa using hf); simp at this; omega
  · have := f.m1 hf; omega
  · rcases f.m3 with ⟨g1, g2⟩ | ⟨g1, g2, g3⟩
    · have := f.r2 g1 hf; omega
    · obtain ⟨k1, k2⟩ := f.p4 hf g1; have := f.t2 k1 g2; omega
  · have := hhi 2 (by omega) (by simpa using hf); simp at this; omega
  · have := hlo 2 (by omega) (by simpa using hf); simp at this; omega

theorem Fin.max2 (h : Fin F Mx l n D T) (ht : Tight F n D) {i j : Nat} (hi : i < 2 * n) (hj : j < 2 * n) (hij : i / 2 ≠ j / 2) {m : Int} (hm : bin F D i j = some m) : ∃ y, Sat l y ∧ vl y i - vl y j = m := by
  have nij : i ≠ j := fun e => hij (by rw [e])
  have nio : i ≠ ot j := fun e => hij (by rw [e, ot_div])
  have noj : ot i ≠ j := fun e => hij (by rw [← e, ot_div])
  have hoj : i / 2 ≠ ot j / 2 := by rw [ot_div]; exact hij
  have c2 := h.coh hi (ot_lt hj) nio
  have c3 := h.coh (ot_lt hi) hj noj
  rw [ot_ot] at c2 c3
  -- how m comes to be
  have hm1 : D i j ≠ F → m ≤ D i j := by
    unfold bin at hm; intro hf
    repeat' split at hm
    all_goals cases hm
    all_goals omega
  have hm2 : D i (ot i) ≠ F → D (ot j) j ≠ F → m ≤ D i (ot i) / 2 + D (ot j) j / 2 := by
    unfold bin at hm; intro hf hg
    repeat' split at hm
    all_goals cases hm
    all_goals omega
  have hm3 : (D i j ≠ F ∧ m = D i j) ∨ (D i (ot i) ≠ F ∧ D (ot j) j ≠ F ∧ m = D i (ot i) / 2 + D (ot j) j / 2) := by
    unfold bin at hm
    repeat' split at hm
    all_goals cases hm
    all_goals omega
  have fs : M2F F m (D i j) (D j i) (D i (ot j)) (D (ot i) j) (D i (ot i)) (D (ot i) i) (D j (ot j)) (D (ot j) j) := by
    have p2 := fun f1 f2 => h.via hi (ot_lt hj) hoj f1 f2
    have p3 := fun f1 f2 => h.via (ot_lt hj) hi (Ne.symm hoj) f1 f2
    have q2 := fun f1 f2 => h.both (ot_lt hj) (ot_lt hi) (by rw [ot_div, ot_div]; exact Ne.symm hij) f1 f2
    have r1 := fun f1 f2 => h.cyc hi (ot_lt hj) nio f1 f2
    have c4 := h.coh hi hj nij
    simp only [ot_ot] at p2 p3 q2
    rw [c3] at p3 r1 q2
    rw [c4] at q2
    exact ⟨hm1, hm2, hm3, ht i hi, ht j hj, fun f1 f2 => h.via hi hj hij f1 f2, p2, p3, fun f1 f2 => h.via hj hi (Ne.symm hij) f1 f2, fun f1 f2 => h.both hi hj hij f1 f2, fun f1 f2 => q2 f2 f1, r1, fun f1 f2 => h.cyc hi hj nij f1 f2⟩
  obtain ⟨s, h1, h2, h3, h4, h5, h6, h7, h8⟩ := fs.solve
  obtain ⟨y, hy, e1, e2⟩ := h.att2 ht hi hj hij h1 h2 h3 h4 h5 h6 h7 h8
  exact ⟨y, hy, by omega⟩

theorem big (N : Nat) (P : Nat → Prop) (lo : Nat → Int) : ∃ t, ∀ a, a < N → P a → lo a ≤ t := by
  obtain ⟨t, h, _⟩ := helly N P (fun _ => False) lo (fun _ => 0) (fun _ _ _ _ _ h => h.elim)
  exact ⟨t, h⟩

theorem Fin.unb2' (h : Fin F Mx l n D T) (ht : Tight F n D) {i j : Nat} (hi : i < 2 * n) (hj : j < 2 * n) (hij : i / 2 ≠ j / 2) (hf : D i j = F) (hg : D i (ot i) = F) (C : Int) : ∃ y, Sat l y ∧ C ≤ vl y i - vl y j := by
  have nij : i ≠ j := fun e => hij (by rw [e])
  have nio : i ≠ ot j := fun e => hij (by rw [e, ot_div])
  have noj : ot i ≠ j := fun e => hij (by rw [← e, ot_div])
  have c2 := h.coh hi (ot_lt hj) nio
  have c3 := h.coh (ot_lt hi) hj noj
  rw [ot_ot] at c2 c3
  by_cases hk : D i (ot j) = F
  · obtain ⟨t, htl, htu⟩ := helly 1 (fun _ => D (ot j) j ≠ F) (fun _ => D j (ot j) ≠ F) (fun _ => -(D (ot j) j / 2)) (fun _ => D j (ot j) / 2) (by
      intro a b _ _ pa pb; have := ht j hj pb pa; omega)
    have b0 := htl 0 (by omega)
    have b1 := htu 0 (by omega)
    obtain ⟨s, hs⟩ := big 4 (fun _ => True) (fun a => if a = 0 then -(D (ot i) i / 2) else if a = 1 then t - D j i else if a = 2 then -t - D (ot i) j else C + t)
    have s0 := hs 0 (by omega) trivial
    have s1 := hs 1 (by omega) trivial
    have s2 := hs 2 (by omega) trivial
    have s3 := hs 3 (by omega) trivial
    simp at s0 s1 s2 s3
    obtain ⟨y, hy, e1, e2⟩ := h.att2 ht hi hj hij (s := s) (t := t) (by omega) (by omega) (by omega) (by omega) (by omega) (by omega) (by omega) (by omega)
    exact ⟨y, hy, by omega⟩
  · have hq : D (ot j) j = F := by
      apply Classical.byContradiction
      intro hq
      exact (h.tri (ot_lt hj) hi hj nio (Ne.symm (ot_ne j)) nij hk hq).1 hf
    obtain ⟨u, hu⟩ := big 4 (fun _ => True) (fun a => if a = 0 then -(D (ot i) i / 2) - D i (ot j) else if a = 1 then -(D j (ot j) / 2) else if a = 2 then -(D j i) - D i (ot j) else C - D i (ot j))
    obtain ⟨v, hv⟩ := big 2 (fun _ => True) (fun a => if a = 0 then u else 0)
    have s0 := hu 0 (by omega) trivial
    have s1 := hu 1 (by omega) trivial
    have s2 := hu 2 (by omega) trivial
    have s3 := hu 3 (by omega) trivial
    have v0 := hv 0 (by omega) trivial
    have v1 := hv 1 (by omega) trivial
    simp at s0 s1 s2 s3 v0 v1
    have r := fun f2 => h.cyc hi (ot_lt hj) nio hk f2
    rw [c3] at r
    obtain ⟨y, hy, e1, e2⟩ := h.att2 ht hi hj hij (s := D i (ot j) + v) (t := -v) (by omega) (by omega) (by omega) (by omega) (by omega) (by omega) (by omega) (by omega)
    exact ⟨y, hy, by omega⟩

theorem Fin.unb2 (h : Fin F Mx l n D T) (ht : Tight F n D) {i j : Nat} (hi : i < 2 * n) (hj : j < 2 * n) (hij : i / 2 ≠ j / 2) (hm : bin F D i j = none) (C : Int) : ∃ y, Sat l y ∧ C ≤ vl y i - vl y j := by
  have nij : i ≠ j := fun e => hij (by rw [e])
  have hf : D i j = F ∧ (D i (ot i) = F ∨ D (ot j) j = F) := by
    unfold bin at hm
    repeat' split at hm
    all_goals first | (cases hm; done) | exact ⟨‹_›, ‹_›⟩
  rcases hf.2 with hg | hg
  · exact h.unb2' ht hi hj hij hf.1 hg C
  · obtain ⟨y, hy, e⟩ := h.unb2' ht (ot_lt hj) (ot_lt hi) (by rw [ot_div, ot_div]; exact Ne.symm hij) (by rw [h.coh hi hj nij]; exact hf.1) (by rw [ot_ot]; exact hg) C
    rw [vl_ot, vl_ot] at e
    exact ⟨y, hy, by omega⟩

/-! What lines say, without any ways. -/
open Classical in
noncomputable def possB (l : List AM) : Bool := decide (∃ x, Sat l x)
def IsMax (l : List AM) (a : AM) (m : Int) : Prop := (∃ x, Sat l x ∧ lhs x a = m) ∧ ∀ x, Sat l x → lhs x a ≤ m
open Classical in
noncomputable def maxO (l : List AM) (a : AM) : Option Int := if h : ∃ m, IsMax l a m then some (Classical.choose h) else none
open Classical in
noncomputable def entB (l : List AM) (a : AM) : Bool := decide (∀ x, Sat l x → lhs x a ≤ a.M)

theorem IsMax.uniq {l : List AM} {a : AM} {m m' : Int} (h : IsMax l a m) (h' : IsMax l a m') : m = m' := by
  obtain ⟨⟨x, hx, e⟩, hm⟩ := h
  obtain ⟨⟨x', hx', e'⟩, hm'⟩ := h'
  have := hm x' hx'; have := hm' x hx; omega
theorem maxO_some {l : List AM} {a : AM} {m : Int} : maxO l a = some m ↔ IsMax l a m := by
  unfold maxO
  split
  · rename_i h
    constructor
    · intro e; cases e; exact Classical.choose_spec h
    · intro hm; rw [(Classical.choose_spec h).uniq hm]
  · rename_i h
    constructor
    · intro e; cases e
    · intro hm; exact absurd ⟨m, hm⟩ h
theorem possB_iff {l : List AM} : possB l = true ↔ ∃ x, Sat l x := by simp [possB]
theorem entB_iff {l : List AM} {a : AM} : entB l a = true ↔ ∀ x, Sat l x → lhs x a ≤ a.M := by simp [entB]

/-- What least ways say of a line's left side. -/
def far (F : Int) (D : Nat → Nat → Int) (a : AM) : Option Int :=
  if a.Q = 0 then (if D (nd a.A a.P) (ot (nd a.A a.P)) = F then none else some (D (nd a.A a.P) (ot (nd a.A a.P)) / 2))
  else bin F D (nd a.A a.P) (nd a.B (-a.Q))

theorem Fin.far_spec (h : Fin F Mx l n D T) (ht : Tight F n D) {a : AM} {My : Int} (o : Ok n My a) :
    (∀ m, far F D a = some m → IsMax l a m) ∧ (far F D a = none → ∀ C, ∃ x, Sat l x ∧ C ≤ lhs x a) := by
  have hi := nd_lt (s := a.P) o.a0 o.an
  by_cases hq : a.Q = 0
  · have e : ∀ x, lhs x a = vl x (nd a.A a.P) := by intro x; rw [vl_nd x o.p]; unfold lhs; rw [hq]; omega
    simp only [far, hq, if_true]
    refine ⟨fun m hm => ?_, fun hn C => ?_⟩
    · split at hm
      · cases hm
      · cases hm
        rename_i hf
        obtain ⟨y, hy, ey⟩ := h.max1 ht hi hf
        exact ⟨⟨y, hy, by rw [e]; exact ey⟩, fun x hx => by rw [e]; exact h.unary hx hi hf⟩
    · split at hn
      · rename_i hf
        obtain ⟨y, hy, ey⟩ := h.unb1 ht hi hf C
        exact ⟨y, hy, by rw [e]; exact ey⟩
      · cases hn
  · obtain ⟨b0, b1, b2⟩ := o.b1 hq
    have hq' : -a.Q = 1 ∨ -a.Q = -1 := by have := o.q; omega
    have hj := nd_lt (s := -a.Q) b0 b1
    have hij : nd a.A a.P / 2 ≠ nd a.B (-a.Q) / 2 := by
      have := o.a0
      unfold nd; repeat' split
      all_goals omega
    have e : ∀ x, lhs x a = vl x (nd a.A a.P) - vl x (nd a.B (-a.Q)) := by
      intro x; rw [vl_nd x o.p, vl_nd x hq', Int.neg_mul]; unfold lhs; omega
    simp only [far, hq, if_false]
    refine ⟨fun m hm => ?_, fun hn C => ?_⟩
    · obtain ⟨y, hy, ey⟩ := h.max2 ht hi hj hij hm
      exact ⟨⟨y, hy, by rw [e]; exact ey⟩, fun x hx => by rw [e]; exact h.bin_le hx hi hj (fun e => hij (by rw [e])) hm⟩
    · obtain ⟨y, hy, ey⟩ := h.unb2 ht hi hj hij hn C
      exact ⟨y, hy, by rw [e]; exact ey⟩

theorem Fin.far_max (h : Fin F Mx l n D T) (ht : Tight F n D) {a : AM} {My : Int} (o : Ok n My a) : maxO l a = far F D a := by
  obtain ⟨h1, h2⟩ := h.far_spec ht o
  cases hf : far F D a with
  | some m => exact maxO_some.2 (h1 m hf)
  | none =>
    cases hg : maxO l a with
    | none => rfl
    | some m =>
      obtain ⟨_, hm⟩ := maxO_some.1 hg
      obtain ⟨x, hx, e⟩ := h2 hf (m + 1)
      have := hm x hx
      omega

theorem Fin.ent (h : Fin F Mx l n D T) (ht : Tight F n D) {a : AM} {My : Int} (o : Ok n My a) : entB l a = (match far F D a with | some m => decide (m ≤ a.M) | none => false) := by
  obtain ⟨h1, h2⟩ := h.far_spec ht o
  cases hf : far F D a with
  | some m =>
    obtain ⟨⟨x, hx, e⟩, hm⟩ := h1 m hf
    simp only
    rw [Bool.eq_iff_iff, entB_iff, decide_eq_true_eq]
    exact ⟨fun hh => by have := hh x hx; omega, fun hh y hy => by have := hm y hy; omega⟩
  | none =>
    simp only
    rw [Bool.eq_iff_iff, entB_iff]
    refine ⟨fun hh => ?_, fun hh => by cases hh⟩
    obtain ⟨x, hx, e⟩ := h2 hf (a.M + 1)
    have := hh x hx
    omega
theorem Fin.poss (h : Fin F Mx l n D T) (ht : Tight F n D) : possB l = true := possB_iff.2 (h.sat ht)
theorem Fin.noposs (h : Fin F Mx l n D T) (ht : ¬Tight F n D) : possB l = false := by
  cases e : possB l with
  | false => rfl
  | true => exact absurd (possB_iff.1 e) (h.unsat ht)
theorem ring_noposs {i : Nat} {c : Int} {X : Tr} {p : List Nat} (ok : ∀ a, a ∈ l → Ok n Mx a) (h : Why l i i c X p) (hc : c < 0) : possB l = false := by
  cases e : possB l with
  | false => rfl
  | true =>
    obtain ⟨x, hx⟩ := possB_iff.1 e
    have := h.sound ok hx
    omega
end Go.Proofs.Ytnjbahiaelehkaa
