/- Plain facts on least ways between the ends of unknown numbers (no program in sight). -/
namespace Go.Proofs.Ytnjbahiaelehkaa

/-- A line of package api. -/
structure AM where
  A : Int
  P : Int
  B : Int
  Q : Int
  M : Int
deriving DecidableEq
def am0 : AM := ⟨0, 0, 0, 0, 0⟩

/-- How something is derived. -/
inductive Tr where
  | line (i : Nat)
  | sum (a b : Tr)
  | half (a : Tr)

/-- The end of an unknown number with a sign. -/
def nd (k s : Int) : Nat := if 0 < s then 2 * k.toNat else 2 * k.toNat + 1
/-- The opposite end. -/
def ot (i : Nat) : Nat := if i % 2 = 0 then i + 1 else i - 1

theorem ot_ot (i : Nat) : ot (ot i) = i := by
  by_cases h : i % 2 = 0
  · have h1 : (i + 1) % 2 ≠ 0 := by omega
    simp [ot, h, h1]
  · have h1 : (i - 1) % 2 = 0 := by omega
    simp [ot, h, h1]; omega
theorem ot_ne (i : Nat) : ot i ≠ i := by unfold ot; split <;> omega
theorem ot_inj {i j : Nat} (h : ot i = ot j) : i = j := by rw [← ot_ot i, h, ot_ot]
theorem ot_lt {i n : Nat} (h : i < 2 * n) : ot i < 2 * n := by unfold ot; split <;> omega

/-- A line is right for n unknown numbers, with bounds up to Mx. -/
structure Ok (n : Nat) (Mx : Int) (a : AM) : Prop where
  a0 : 0 ≤ a.A
  an : a.A < n
  p : a.P = 1 ∨ a.P = -1
  q : a.Q = 0 ∨ a.Q = 1 ∨ a.Q = -1
  lo : -Mx ≤ a.M
  hi : a.M ≤ Mx
  b0 : a.Q = 0 → a.B = 0
  b1 : a.Q ≠ 0 → 0 ≤ a.B ∧ a.B < n ∧ a.B ≠ a.A

inductive Edge (l : List AM) : Nat → Nat → Int → Tr → Prop
  | un (t : Nat) (a : AM) (h : l[t]? = some a) (hq : a.Q = 0) : Edge l (nd a.A a.P) (ot (nd a.A a.P)) (2 * a.M) (.sum (.line t) (.line t))
  | bi (t : Nat) (a : AM) (h : l[t]? = some a) (hq : a.Q ≠ 0) : Edge l (nd a.A a.P) (nd a.B (-a.Q)) a.M (.line t)
  | bj (t : Nat) (a : AM) (h : l[t]? = some a) (hq : a.Q ≠ 0) : Edge l (ot (nd a.B (-a.Q))) (ot (nd a.A a.P)) a.M (.line t)

inductive Why (l : List AM) : Nat → Nat → Int → Tr → List Nat → Prop
  | edge {i j : Nat} {c : Int} {T : Tr} (h : Edge l i j c T) : Why l i j c T []
  | sum {i k j : Nat} {c c' : Int} {T T' : Tr} {p p' : List Nat} (h : Why l i k c T p) (h' : Why l k j c' T' p') : Why l i j (c + c') (.sum T T') (p ++ k :: p')

theorem nd_lt {n : Nat} {k s : Int} (h0 : 0 ≤ k) (h : k < n) : nd k s < 2 * n := by unfold nd; split <;> omega

theorem Edge.lt {l : List AM} {n : Nat} {Mx : Int} (ok : ∀ a, a ∈ l → Ok n Mx a) {i j : Nat} {c : Int} {T : Tr} (h : Edge l i j c T) : i < 2 * n ∧ j < 2 * n ∧ i ≠ j ∧ -(2 * Mx) ≤ c ∧ c ≤ 2 * Mx := by
  cases h with
  | un t a h hq =>
    have o := ok a (List.mem_of_getElem? h)
    have h1 := nd_lt (s := a.P) o.a0 o.an
    exact ⟨h1, ot_lt h1, fun e => ot_ne _ e.symm, by have := o.lo; omega, by have := o.hi; omega⟩
  | bi t a h hq =>
    have o := ok a (List.mem_of_getElem? h)
    obtain ⟨b0, b1, b2⟩ := o.b1 hq
    refine ⟨nd_lt o.a0 o.an, nd_lt b0 b1, ?_, by have := o.lo; have := o.hi; omega, by have := o.lo; have := o.hi; omega⟩
    have := o.a0
    unfold nd; intro e; split at e <;> split at e <;> omega
  | bj t a h hq =>
    have o := ok a (List.mem_of_getElem? h)
    obtain ⟨b0, b1, b2⟩ := o.b1 hq
    refine ⟨ot_lt (nd_lt b0 b1), ot_lt (nd_lt o.a0 o.an), ?_, by have := o.lo; have := o.hi; omega, by have := o.lo; have := o.hi; omega⟩
    have := o.a0
    intro e; have e := ot_inj e; revert e
    unfold nd; intro e; split at e <;> split at e <;> omega

theorem Why.weight {l : List AM} {n : Nat} {Mx : Int} (ok : ∀ a, a ∈ l → Ok n Mx a) {i j : Nat} {c : Int} {T : Tr} {p : List Nat} (h : Why l i j c T p) :
    -((p.length + 1) * (2 * Mx)) ≤ c ∧ c ≤ (p.length + 1) * (2 * Mx) := by
  induction h with
  | edge h => obtain ⟨_, _, _, h1, h2⟩ := h.lt ok; simp; omega
  | sum h h' ih ih' =>
    simp only [List.length_append, List.length_cons]
    rename_i p p'
    have e : (((p.length + (p'.length + 1) : Nat) : Int) + 1) * (2 * Mx) = (p.length + 1) * (2 * Mx) + (p'.length + 1) * (2 * Mx) := by
      push_cast; rw [← Int.add_mul]; congr 1; omega
    rw [e]; omega

theorem nodup_le : ∀ (N : Nat) (p : List Nat), p.Nodup → (∀ x, x ∈ p → x < N) → p.length ≤ N
  | 0, [], _, _ => Nat.le_refl _
  | 0, x :: p, _, h => absurd (h x (List.mem_cons_self ..)) (by omega)
  | N + 1, p, hn, h => by
    by_cases hm : N ∈ p
    · have h1 : (p.erase N).length = p.length - 1 := List.length_erase_of_mem hm
      have h2 := nodup_le N (p.erase N) (hn.erase N) fun x hx => by
        have h3 := h x (List.mem_of_mem_erase hx)
        have h4 : x ≠ N := fun e => by subst e; exact (List.Nodup.not_mem_erase hn) hx
        omega
      omega
    · have := nodup_le N p hn fun x hx => by
        have h3 := h x hx
        have h4 : x ≠ N := fun e => hm (e ▸ hx)
        omega
      omega

/-- A way without a node twice. -/
structure Simple (K i j : Nat) (p : List Nat) : Prop where
  lt : ∀ x, x ∈ p → x < K
  nodup : p.Nodup
  ni : i ∉ p
  nj : j ∉ p

structure Stage (F : Int) (l : List AM) (N K : Nat) (D : Nat → Nat → Int) (T : Nat → Nat → Tr) : Prop where
  why : ∀ i j, i < N → j < N → i ≠ j → D i j ≠ F → ∃ p, Why l i j (D i j) (T i j) p ∧ Simple K i j p
  edge : ∀ i j c X, Edge l i j c X → D i j ≠ F ∧ D i j ≤ c
  tri : ∀ m i j, m < K → i < N → j < N → i ≠ m → j ≠ m → D i m ≠ F → D m j ≠ F → (i ≠ j → D i j ≠ F ∧ D i j ≤ D i m + D m j) ∧ (i = j → 0 ≤ D i m + D m j)

theorem Simple.left {K i j k : Nat} {p p' : List Nat} (h : Simple K i j (p ++ k :: p')) : Simple K i k p ∧ k < K ∧ i ≠ k ∧ j ≠ k ∧ Simple K k j p' := by
  obtain ⟨h1, h2, h3, h4⟩ := h
  rw [List.nodup_append] at h2
  obtain ⟨n1, n2, n3⟩ := h2
  rw [List.nodup_cons] at n2
  simp only [List.mem_append, List.mem_cons, not_or] at h3 h4
  refine ⟨⟨fun x hx => h1 x (by simp [hx]), n1, h3.1, fun hk => n3 k hk k (by simp) rfl⟩, h1 k (by simp), h3.2.1, h4.2.1, ⟨fun x hx => h1 x (by simp [hx]), n2.2, n2.1, h4.2.2⟩⟩

theorem Why.ends {l : List AM} {n : Nat} {Mx : Int} (ok : ∀ a, a ∈ l → Ok n Mx a) {i j : Nat} {c : Int} {T : Tr} {p : List Nat} (h : Why l i j c T p) : i < 2 * n ∧ j < 2 * n := by
  induction h with
  | edge h => exact ⟨(h.lt ok).1, (h.lt ok).2.1⟩
  | sum _ _ ih ih' => exact ⟨ih.1, ih'.2⟩

/-- What is told of two ends is the least of all simple ways. -/
theorem Stage.least {F Mx : Int} {l : List AM} {n K : Nat} {D : Nat → Nat → Int} {T : Nat → Nat → Tr} (ok : ∀ a, a ∈ l → Ok n Mx a) (h : Stage F l (2 * n) K D T)
    {i j : Nat} {c : Int} {X : Tr} {p : List Nat} (hw : Why l i j c X p) (hs : Simple K i j p) (hij : i ≠ j) : D i j ≠ F ∧ D i j ≤ c := by
  induction hw with
  | edge he => exact h.edge _ _ _ _ he
  | sum hw hw' ih ih' =>
    obtain ⟨s1, hk, hik, hjk, s2⟩ := hs.left
    obtain ⟨f1, l1⟩ := ih s1 hik
    obtain ⟨f2, l2⟩ := ih' s2 (Ne.symm hjk)
    obtain ⟨f3, l3⟩ := (h.tri _ _ _ hk (hw.ends ok).1 (hw'.ends ok).2 hik hjk f1 f2).1 hij
    exact ⟨f3, by omega⟩

/-- A way over an inner node is no less than its two parts. -/
theorem Stage.split {F Mx : Int} {l : List AM} {n K : Nat} {D : Nat → Nat → Int} {T : Nat → Nat → Tr} (ok : ∀ a, a ∈ l → Ok n Mx a) (h : Stage F l (2 * n) K D T)
    {i j : Nat} {c : Int} {X : Tr} {p : List Nat} (hw : Why l i j c X p) (hs : Simple K i j p) {x : Nat} (hx : x ∈ p) :
    D i x ≠ F ∧ D x j ≠ F ∧ D i x + D x j ≤ c ∧ x < 2 * n := by
  induction hw with
  | edge he => cases hx
  | sum hw hw' ih ih' =>
    rename_i i k j c c' T T' p p'
    obtain ⟨s1, hk, hik, hjk, s2⟩ := hs.left
    obtain ⟨f1, l1⟩ := h.least ok hw s1 hik
    obtain ⟨f2, l2⟩ := h.least ok hw' s2 (Ne.symm hjk)
    have hxj : x ≠ j := fun e => hs.nj (e ▸ hx)
    have hxi : x ≠ i := fun e => hs.ni (e ▸ hx)
    rcases List.mem_append.1 hx with hx1 | hx1
    · obtain ⟨g1, g2, g3, g4⟩ := ih s1 hx1
      have hxk : x ≠ k := fun e => s1.nj (e ▸ hx1)
      obtain ⟨f3, l3⟩ := (h.tri k x j hk g4 (hw'.ends ok).2 hxk hjk g2 f2).1 hxj
      exact ⟨g1, f3, by omega, g4⟩
    · rcases List.mem_cons.1 hx1 with rfl | hx1
      · exact ⟨f1, f2, by omega, (hw.ends ok).2⟩
      · obtain ⟨g1, g2, g3, g4⟩ := ih' s2 hx1
        have hxk : x ≠ k := fun e => s2.ni (e ▸ hx1)
        obtain ⟨f3, l3⟩ := (h.tri k i x hk (hw.ends ok).1 g4 hik hxk f1 g1).1 (Ne.symm hxi)
        exact ⟨f3, g2, by omega, g4⟩

theorem Simple.len {n i j : Nat} {p : List Nat} (h : Simple (2 * n) i j p) (hi : i < 2 * n) (hj : j < 2 * n) (hij : i ≠ j) : p.length + 2 ≤ 2 * n := by
  have := nodup_le (2 * n) (i :: j :: p) (by
    rw [List.nodup_cons, List.nodup_cons]
    refine ⟨?_, h.nj, h.nodup⟩
    rw [List.mem_cons, not_or]
    exact ⟨hij, h.ni⟩) (by
    intro x hx
    rcases List.mem_cons.1 hx with rfl | hx
    · exact hi
    rcases List.mem_cons.1 hx with rfl | hx
    · exact hj
    exact h.lt x hx)
  simpa using this

theorem Stage.bound {F Mx : Int} {l : List AM} {n K : Nat} {D : Nat → Nat → Int} {T : Nat → Nat → Tr} (ok : ∀ a, a ∈ l → Ok n Mx a) (hM : 0 ≤ Mx) (hn : n ≤ 12) (h : Stage F l (2 * n) K D T) (hK : K ≤ 2 * n)
    {i j : Nat} (hi : i < 2 * n) (hj : j < 2 * n) (hij : i ≠ j) (hf : D i j ≠ F) : -(46 * Mx) ≤ D i j ∧ D i j ≤ 46 * Mx := by
  obtain ⟨p, hw, hs⟩ := h.why i j hi hj hij hf
  have hl : p.length + 2 ≤ 2 * n := Simple.len ⟨fun x hx => by have := hs.lt x hx; omega, hs.nodup, hs.ni, hs.nj⟩ hi hj hij
  obtain ⟨h1, h2⟩ := hw.weight ok
  have e : ((p.length : Int) + 1) * (2 * Mx) ≤ 23 * (2 * Mx) := Int.mul_le_mul_of_nonneg_right (by omega) (by omega)
  omega

/-- One round over the middle k. -/
def relC (F : Int) (D : Nat → Nat → Int) (k i j : Nat) : Prop := i = k ∨ j = k ∨ i = j ∨ D i k = F ∨ D k j = F ∨ D i j ≤ D i k + D k j
instance (F : Int) (D : Nat → Nat → Int) (k i j : Nat) : Decidable (relC F D k i j) := by unfold relC; infer_instance
def relD (F : Int) (D : Nat → Nat → Int) (k i j : Nat) : Int := if relC F D k i j then D i j else D i k + D k j
def relT (F : Int) (D : Nat → Nat → Int) (T : Nat → Nat → Tr) (k i j : Nat) : Tr := if relC F D k i j then T i j else .sum (T i k) (T k j)

theorem relD_left {F : Int} {D : Nat → Nat → Int} {k i : Nat} : relD F D k i k = D i k := by simp [relD, relC]
theorem relD_right {F : Int} {D : Nat → Nat → Int} {k j : Nat} : relD F D k k j = D k j := by simp [relD, relC]

theorem Stage.step {F Mx : Int} {l : List AM} {n K : Nat} {D : Nat → Nat → Int} {T : Nat → Nat → Tr} (ok : ∀ a, a ∈ l → Ok n Mx a) (hM : 0 ≤ Mx) (hn : n ≤ 12) (hF : 100 * Mx < F) (h : Stage F l (2 * n) K D T) (hK : K < 2 * n)
    (hc : ∀ i, i < 2 * n → i ≠ K → D i K ≠ F → D K i ≠ F → 0 ≤ D i K + D K i) : Stage F l (2 * n) (K + 1) (relD F D K) (relT F D T K) := by
  have hb := fun {i j} (hi : i < 2 * n) (hj : j < 2 * n) (hij : i ≠ j) hf => h.bound ok hM hn (Nat.le_of_lt hK) hi hj hij hf
  -- what is told never grows
  have hle : ∀ i j, i < 2 * n → j < 2 * n → i ≠ j → D i j ≠ F → relD F D K i j ≠ F ∧ relD F D K i j ≤ D i j := by
    intro i j hi hj hij hf
    have b := hb hi hj hij hf
    unfold relD
    split
    · exact ⟨hf, Int.le_refl _⟩
    · rename_i hr; simp only [relC, not_or] at hr; omega
  have hvia : ∀ i j, i < 2 * n → j < 2 * n → i ≠ j → i ≠ K → j ≠ K → D i K ≠ F → D K j ≠ F → relD F D K i j ≠ F ∧ relD F D K i j ≤ D i K + D K j := by
    intro i j hi hj hij hik hjk f1 f2
    have b1 := hb hi hK hik f1
    have b2 := hb hK hj (Ne.symm hjk) f2
    unfold relD
    split
    · rename_i hr
      simp only [relC] at hr
      omega
    · omega
  -- what is told is an old one, or one over the middle
  have hor : ∀ i j, relD F D K i j = D i j ∨ (relD F D K i j = D i K + D K j ∧ i ≠ K ∧ j ≠ K ∧ i ≠ j ∧ D i K ≠ F ∧ D K j ≠ F) := by
    intro i j
    unfold relD
    split
    · exact .inl rfl
    · rename_i hr; simp only [relC, not_or] at hr; exact .inr ⟨rfl, hr.1, hr.2.1, hr.2.2.1, hr.2.2.2.1, hr.2.2.2.2.1⟩
  refine ⟨?_, ?_, ?_⟩
  · intro i j hi hj hij hf
    by_cases hr : relC F D K i j
    · simp only [relD, relT, hr, if_true] at hf ⊢
      obtain ⟨p, hw, hs⟩ := h.why i j hi hj hij hf
      exact ⟨p, hw, fun x hx => Nat.lt_succ_of_lt (hs.lt x hx), hs.nodup, hs.ni, hs.nj⟩
    · simp only [relD, relT, hr, if_false] at hf ⊢
      simp only [relC, not_or] at hr
      obtain ⟨hik, hjk, _, f1, f2, hlt⟩ := hr
      obtain ⟨p, hw, hs⟩ := h.why i K hi hK hik f1
      obtain ⟨p', hw', hs'⟩ := h.why K j hK hj (Ne.symm hjk) f2
      have no : ∀ x, x < 2 * n → x < K → x ≠ i → x ≠ j → D i x ≠ F → D x j ≠ F → D i x + D x j ≤ D i K + D K j → False := by
        intro x hx hxk hxi hxj g1 g2 g3
        have := (h.tri x i j hxk hi hj (Ne.symm hxi) (Ne.symm hxj) g1 g2).1 hij
        omega
      refine ⟨p ++ K :: p', Why.sum hw hw', ?_, ?_, ?_, ?_⟩
      · intro x hx
        rcases List.mem_append.1 hx with hx | hx
        · exact Nat.lt_succ_of_lt (hs.lt x hx)
        · rcases List.mem_cons.1 hx with rfl | hx
          · omega
          · exact Nat.lt_succ_of_lt (hs'.lt x hx)
      · rw [List.nodup_append]
        refine ⟨hs.nodup, ?_, ?_⟩
        · rw [List.nodup_cons]; exact ⟨hs'.ni, hs'.nodup⟩
        · intro x hx y hy e
          subst e
          rcases List.mem_cons.1 hy with e | hy
          · exact absurd (hs.lt x hx) (by omega)
          · obtain ⟨a1, a2, a3, a4⟩ := h.split ok hw hs hx
            obtain ⟨b1, b2, b3, _⟩ := h.split ok hw' hs' hy
            have hxk := hs.lt x hx
            have := hc x a4 (by omega) a2 b1
            exact no x a4 hxk (fun e => hs.ni (e ▸ hx)) (fun e => hs'.nj (e ▸ hy)) a1 b2 (by omega)
      · intro hx
        rcases List.mem_append.1 hx with hx | hx
        · exact hs.ni hx
        · rcases List.mem_cons.1 hx with e | hx
          · exact hik e
          · obtain ⟨b1, b2, b3, _⟩ := h.split ok hw' hs' hx
            have := hc i hi hik f1 b1
            omega
      · intro hx
        rcases List.mem_append.1 hx with hx | hx
        · obtain ⟨b1, b2, b3, _⟩ := h.split ok hw hs hx
          have := hc j hj hjk b2 f2
          omega
        · rcases List.mem_cons.1 hx with e | hx
          · exact hjk e
          · exact hs'.nj hx
  · intro i j c X he
    obtain ⟨hi, hj, hij, _⟩ := he.lt ok
    obtain ⟨f, hle'⟩ := h.edge i j c X he
    obtain ⟨g, hg⟩ := hle i j hi hj hij f
    exact ⟨g, by omega⟩
  · intro m i j hm hi hj him hjm f1 f2
    by_cases hmk : m = K
    · subst hmk
      rw [relD_left] at f1 ⊢
      rw [relD_right] at f2 ⊢
      refine ⟨fun hij => hvia i j hi hj hij him hjm f1 f2, fun hij => ?_⟩
      subst hij
      exact hc i hi him f1 f2
    · have hmK : m < K := by omega
      have hmN : m < 2 * n := by omega
      rcases hor i m with e1 | ⟨e1, a1, a2, a3, a4, a5⟩ <;> rcases hor m j with e2 | ⟨e2, b1, b2, b3, b4, b5⟩ <;> rw [e1] at f1 ⊢ <;> rw [e2] at f2 ⊢
      · obtain ⟨t1, t2⟩ := h.tri m i j hmK hi hj him hjm f1 f2
        refine ⟨fun hij => ?_, t2⟩
        obtain ⟨g1, g2⟩ := t1 hij
        obtain ⟨g3, g4⟩ := hle i j hi hj hij g1
        exact ⟨g3, by omega⟩
      · -- i m old, m j over K
        by_cases hiK : i = K
        · subst hiK
          refine ⟨fun hij => ?_, fun hij => absurd hij.symm b2⟩
          rw [relD_right]
          have := hc m hmN b1 b4 f1
          exact ⟨b5, by omega⟩
        · obtain ⟨g1, g2⟩ := (h.tri m i K hmK hi hK him (Ne.symm b1) f1 b4).1 hiK
          refine ⟨fun hij => ?_, fun hij => ?_⟩
          · obtain ⟨g3, g4⟩ := hvia i j hi hj hij hiK b2 g1 b5
            exact ⟨g3, by omega⟩
          · subst hij
            have := hc i hi hiK g1 b5
            omega
      · by_cases hjK : j = K
        · subst hjK
          refine ⟨fun hij => ?_, fun hij => absurd hij a1⟩
          rw [relD_left]
          have := hc m hmN a2 f2 a5
          exact ⟨a4, by omega⟩
        · obtain ⟨g1, g2⟩ := (h.tri m K j hmK hK hj (Ne.symm a2) hjm a5 f2).1 (Ne.symm hjK)
          refine ⟨fun hij => ?_, fun hij => ?_⟩
          · obtain ⟨g3, g4⟩ := hvia i j hi hj hij a1 hjK a4 g1
            exact ⟨g3, by omega⟩
          · subst hij
            have := hc i hi a1 a4 g1
            omega
      · have g0 := hc m hmN b1 b4 a5
        refine ⟨fun hij => ?_, fun hij => ?_⟩
        · obtain ⟨g3, g4⟩ := hvia i j hi hj hij a1 b2 a4 b5
          exact ⟨g3, by omega⟩
        · subst hij
          have := hc i hi a1 a4 b5
          omega
end Go.Proofs.Ytnjbahiaelehkaa
