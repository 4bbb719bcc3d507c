/- Plain facts: whole numbers that fit lines, and what least ways say of them (no program in sight). -/
import Derived.Test.YtnjbahiaelehkaaM1
namespace Go.Proofs.Ytnjbahiaelehkaa

/-- The value at an end. -/
def vl (x : Nat → Int) (i : Nat) : Int := if i % 2 = 0 then x (i / 2) else -(x (i / 2))
def lhs (x : Nat → Int) (a : AM) : Int := a.P * x a.A.toNat + a.Q * x a.B.toNat
def Sat (l : List AM) (x : Nat → Int) : Prop := ∀ a, a ∈ l → lhs x a ≤ a.M

theorem vl_ot (x : Nat → Int) (i : Nat) : vl x (ot i) = -(vl x i) := by
  unfold vl ot
  by_cases h : i % 2 = 0
  · have h1 : (i + 1) % 2 ≠ 0 := by omega
    have h2 : (i + 1) / 2 = i / 2 := by omega
    simp [h, h1, h2]
  · have h1 : (i - 1) % 2 = 0 := by omega
    have h2 : (i - 1) / 2 = i / 2 := by omega
    simp [h, h1, h2]

theorem vl_nd (x : Nat → Int) {k s : Int} (hs : s = 1 ∨ s = -1) : vl x (nd k s) = s * x k.toNat := by
  unfold vl nd
  rcases hs with rfl | rfl
  · have h2 : 2 * k.toNat / 2 = k.toNat := by omega
    simp [h2]
  · have h2 : (2 * k.toNat + 1) / 2 = k.toNat := by omega
    simp [h2]

theorem Edge.sound {l : List AM} {n : Nat} {Mx : Int} (ok : ∀ a, a ∈ l → Ok n Mx a) {x : Nat → Int} (hx : Sat l x) {i j : Nat} {c : Int} {T : Tr} (h : Edge l i j c T) : vl x i - vl x j ≤ c := by
  cases h with
  | un t a h hq =>
    have o := ok a (List.mem_of_getElem? h)
    have s := hx a (List.mem_of_getElem? h)
    unfold lhs at s
    rw [vl_ot, vl_nd x o.p]
    rw [hq] at s
    omega
  | bi t a h hq =>
    have o := ok a (List.mem_of_getElem? h)
    have s := hx a (List.mem_of_getElem? h)
    unfold lhs at s
    have hq' : -a.Q = 1 ∨ -a.Q = -1 := by have := o.q; omega
    rw [vl_nd x o.p, vl_nd x hq', Int.neg_mul]
    omega
  | bj t a h hq =>
    have o := ok a (List.mem_of_getElem? h)
    have s := hx a (List.mem_of_getElem? h)
    unfold lhs at s
    have hq' : -a.Q = 1 ∨ -a.Q = -1 := by have := o.q; omega
    rw [vl_ot, vl_ot, vl_nd x o.p, vl_nd x hq', Int.neg_mul]
    omega

theorem Why.sound {l : List AM} {n : Nat} {Mx : Int} (ok : ∀ a, a ∈ l → Ok n Mx a) {x : Nat → Int} (hx : Sat l x) {i j : Nat} {c : Int} {T : Tr} {p : List Nat} (h : Why l i j c T p) : vl x i - vl x j ≤ c := by
  induction h with
  | edge h => exact h.sound ok hx
  | sum h h' ih ih' => omega

theorem Edge.mirror {l : List AM} {i j : Nat} {c : Int} {T : Tr} (h : Edge l i j c T) : ∃ T', Edge l (ot j) (ot i) c T' := by
  cases h with
  | un t a h hq => exact ⟨_, by rw [ot_ot]; exact .un t a h hq⟩
  | bi t a h hq => exact ⟨_, .bj t a h hq⟩
  | bj t a h hq => exact ⟨_, by rw [ot_ot, ot_ot]; exact .bi t a h hq⟩

theorem Why.mirror {l : List AM} {i j : Nat} {c : Int} {T : Tr} {p : List Nat} (h : Why l i j c T p) : ∃ T', Why l (ot j) (ot i) c T' (p.map ot).reverse := by
  induction h with
  | edge h => obtain ⟨T', h'⟩ := h.mirror; exact ⟨T', .edge h'⟩
  | sum h h' ih ih' =>
    obtain ⟨T1, h1⟩ := ih
    obtain ⟨T2, h2⟩ := ih'
    refine ⟨.sum T2 T1, ?_⟩
    have := Why.sum h2 h1
    rw [Int.add_comm]
    simpa using this

theorem Simple.mirror {n i j : Nat} {p : List Nat} (h : Simple (2 * n) i j p) : Simple (2 * n) (ot j) (ot i) (p.map ot).reverse := by
  have hm : ∀ y, y ∈ (p.map ot).reverse → ∃ z, z ∈ p ∧ ot z = y := by
    intro y hy
    rw [List.mem_reverse, List.mem_map] at hy
    exact hy
  refine ⟨?_, ?_, ?_, ?_⟩
  · intro y hy
    obtain ⟨z, hz, rfl⟩ := hm y hy
    exact ot_lt (h.lt z hz)
  · have := h.nodup
    clear h hm
    suffices hs : (p.map ot).Nodup by
      show List.Pairwise _ _
      rw [List.pairwise_reverse]
      exact List.Pairwise.imp (fun h e => h e.symm) hs
    induction p with
    | nil => simp
    | cons a p ih =>
      rw [List.nodup_cons] at this
      simp only [List.map_cons, List.nodup_cons]
      refine ⟨?_, ih this.2⟩
      intro hin
      obtain ⟨z, hz, e⟩ := List.mem_map.1 hin
      exact this.1 (ot_inj e ▸ hz)
  · intro hin
    obtain ⟨z, hz, e⟩ := hm _ hin
    exact h.nj (ot_inj e ▸ hz)
  · intro hin
    obtain ⟨z, hz, e⟩ := hm _ hin
    exact h.ni (ot_inj e ▸ hz)

/-- The end of all rounds. -/
structure Fin (F Mx : Int) (l : List AM) (n : Nat) (D : Nat → Nat → Int) (T : Nat → Nat → Tr) : Prop where
  ok : ∀ a, a ∈ l → Ok n Mx a
  st : Stage F l (2 * n) (2 * n) D T

theorem Fin.coh {F Mx : Int} {l : List AM} {n : Nat} {D : Nat → Nat → Int} {T : Nat → Nat → Tr} (h : Fin F Mx l n D T) {i j : Nat} (hi : i < 2 * n) (hj : j < 2 * n) (hij : i ≠ j) :
    D (ot j) (ot i) = D i j := by
  have key : ∀ i j, i < 2 * n → j < 2 * n → i ≠ j → D i j ≠ F → D (ot j) (ot i) ≠ F ∧ D (ot j) (ot i) ≤ D i j := by
    intro i j hi hj hij hf
    obtain ⟨p, hw, hs⟩ := h.st.why i j hi hj hij hf
    obtain ⟨T', hw'⟩ := hw.mirror
    exact h.st.least h.ok hw' hs.mirror (fun e => hij (ot_inj e).symm)
  by_cases hf : D i j = F
  · by_cases hg : D (ot j) (ot i) = F
    · rw [hf, hg]
    · have := key (ot j) (ot i) (ot_lt hj) (ot_lt hi) (fun e => hij (ot_inj e).symm) hg
      rw [ot_ot, ot_ot] at this
      exact absurd hf this.1
  · have h1 := key i j hi hj hij hf
    have h2 := key (ot j) (ot i) (ot_lt hj) (ot_lt hi) (fun e => hij (ot_inj e).symm) h1.1
    rw [ot_ot, ot_ot] at h2
    omega

theorem Fin.sound {F Mx : Int} {l : List AM} {n : Nat} {D : Nat → Nat → Int} {T : Nat → Nat → Tr} (h : Fin F Mx l n D T) {x : Nat → Int} (hx : Sat l x) {i j : Nat} (hi : i < 2 * n) (hj : j < 2 * n) (hij : i ≠ j) (hf : D i j ≠ F) :
    vl x i - vl x j ≤ D i j := by
  obtain ⟨p, hw, _⟩ := h.st.why i j hi hj hij hf
  exact hw.sound h.ok hx

theorem Fin.tri {F Mx : Int} {l : List AM} {n : Nat} {D : Nat → Nat → Int} {T : Nat → Nat → Tr} (h : Fin F Mx l n D T) {m i j : Nat} (hm : m < 2 * n) (hi : i < 2 * n) (hj : j < 2 * n) (h1 : i ≠ m) (h2 : j ≠ m) (hij : i ≠ j) (f1 : D i m ≠ F) (f2 : D m j ≠ F) :
    D i j ≠ F ∧ D i j ≤ D i m + D m j := (h.st.tri m i j hm hi hj h1 h2 f1 f2).1 hij
theorem Fin.round {F Mx : Int} {l : List AM} {n : Nat} {D : Nat → Nat → Int} {T : Nat → Nat → Tr} (h : Fin F Mx l n D T) {m i : Nat} (hm : m < 2 * n) (hi : i < 2 * n) (h1 : i ≠ m) (f1 : D i m ≠ F) (f2 : D m i ≠ F) :
    0 ≤ D i m + D m i := (h.st.tri m i i hm hi hi h1 h1 f1 f2).2 rfl

/-- No unknown number is wedged between two halves. -/
def Tight (F : Int) (n : Nat) (D : Nat → Nat → Int) : Prop := ∀ i, i < 2 * n → D i (ot i) ≠ F → D (ot i) i ≠ F → 0 ≤ D i (ot i) / 2 + D (ot i) i / 2

/-- Numbers of some unknowns that fit what is told of them. -/
structure Part (F : Int) (n : Nat) (D : Nat → Nat → Int) (V : Nat → Prop) (x : Nat → Int) : Prop where
  un : ∀ i, i < 2 * n → V (i / 2) → D i (ot i) ≠ F → vl x i ≤ D i (ot i) / 2
  bi : ∀ i j, i < 2 * n → j < 2 * n → i ≠ j → V (i / 2) → V (j / 2) → D i j ≠ F → vl x i - vl x j ≤ D i j

theorem top_of : ∀ (N : Nat) (P : Nat → Prop) (lo : Nat → Int), (∀ a, a < N → ¬P a) ∨ ∃ t, t < N ∧ P t ∧ ∀ a, a < N → P a → lo a ≤ lo t
  | 0, _, _ => .inl fun a h => absurd h (Nat.not_lt_zero a)
  | N + 1, P, lo => by
    rcases top_of N P lo with h | ⟨t, ht, hp, hm⟩
    · by_cases hN : P N
      · refine .inr ⟨N, Nat.lt_succ_self N, hN, fun a ha hpa => ?_⟩
        by_cases e : a = N
        · rw [e]; exact Int.le_refl _
        · exact absurd hpa (h a (by omega))
      · refine .inl fun a ha hpa => ?_
        by_cases e : a = N
        · exact hN (e ▸ hpa)
        · exact h a (by omega) hpa
    · by_cases hN : P N ∧ lo t ≤ lo N
      · refine .inr ⟨N, Nat.lt_succ_self N, hN.1, fun a ha hpa => ?_⟩
        by_cases e : a = N
        · rw [e]; exact Int.le_refl _
        · have := hm a (by omega) hpa; have := hN.2; omega
      · refine .inr ⟨t, by omega, hp, fun a ha hpa => ?_⟩
        by_cases e : a = N
        · subst e
          have : ¬ lo t ≤ lo a := fun h => hN ⟨hpa, h⟩
          omega
        · exact hm a (by omega) hpa

theorem helly (N : Nat) (P Q : Nat → Prop) (lo hi : Nat → Int) (h : ∀ a b, a < N → b < N → P a → Q b → lo a ≤ hi b) :
    ∃ t, (∀ a, a < N → P a → lo a ≤ t) ∧ (∀ b, b < N → Q b → t ≤ hi b) := by
  rcases top_of N P lo with h0 | ⟨t, ht, hp, hm⟩
  · rcases top_of N Q (fun b => -(hi b)) with h1 | ⟨t, ht, hp, hm⟩
    · exact ⟨0, fun a ha hp => absurd hp (h0 a ha), fun b hb hq => absurd hq (h1 b hb)⟩
    · exact ⟨hi t, fun a ha hp => absurd hp (h0 a ha), fun b hb hq => by have := hm b hb hq; omega⟩
  · exact ⟨lo t, hm, fun b hb hq => h t b ht hb hp hq⟩

theorem ot_even (m : Nat) : ot (2 * m) = 2 * m + 1 := by unfold ot; rw [if_pos (by omega)]
theorem ot_odd (m : Nat) : ot (2 * m + 1) = 2 * m := by unfold ot; rw [if_neg (by omega)]; omega
theorem ot_div (i : Nat) : ot i / 2 = i / 2 := by unfold ot; split <;> omega
theorem half_eq {i m : Nat} (h : i / 2 = m) : i = 2 * m ∨ i = 2 * m + 1 := by omega
theorem same_half {i j : Nat} (h : i / 2 = j / 2) : i = j ∨ i = ot j := by unfold ot; split <;> omega

/-- One unknown more. -/
theorem Part.more {F Mx : Int} {l : List AM} {n : Nat} {D : Nat → Nat → Int} {T : Nat → Nat → Tr} (h : Fin F Mx l n D T) (ht : Tight F n D) {V : Nat → Prop} {x : Nat → Int} (hp : Part F n D V x)
    {m : Nat} (hm : m < n) (hv : ¬V m) : ∃ t, Part F n D (fun k => V k ∨ k = m) (fun k => if k = m then t else x k) := by
  have e0 : 2 * m < 2 * n := by omega
  have e1 : 2 * m + 1 < 2 * n := by omega
  have hne : ∀ a, V (a / 2) → a ≠ 2 * m ∧ a ≠ 2 * m + 1 := by
    intro a ha
    constructor <;> intro e <;> subst e
    · exact hv (by have : 2 * m / 2 = m := by omega
                   rwa [this] at ha)
    · exact hv (by have : (2 * m + 1) / 2 = m := by omega
                   rwa [this] at ha)
  obtain ⟨t, hlo, hhi⟩ := helly (2 * n + 1)
    (fun a => if a = 2 * n then D (2 * m + 1) (2 * m) ≠ F else V (a / 2) ∧ D a (2 * m) ≠ F)
    (fun b => if b = 2 * n then D (2 * m) (2 * m + 1) ≠ F else V (b / 2) ∧ D (2 * m) b ≠ F)
    (fun a => if a = 2 * n then -(D (2 * m + 1) (2 * m) / 2) else vl x a - D a (2 * m))
    (fun b => if b = 2 * n then D (2 * m) (2 * m + 1) / 2 else vl x b + D (2 * m) b) (by
      intro a b ha hb pa pb
      by_cases ea : a = 2 * n <;> by_cases eb : b = 2 * n
      · simp only [ea, eb, if_true] at pa pb ⊢
        have := ht (2 * m) e0 (by rw [ot_even]; exact pb) (by rw [ot_even]; exact pa)
        rw [ot_even] at this
        omega
      · simp only [ea, eb, if_true, if_false] at pa pb ⊢
        have hb' : b < 2 * n := by omega
        obtain ⟨n1, n2⟩ := hne b pb.1
        -- the opposite of b
        have c1 : D (ot b) (2 * m + 1) = D (2 * m) b := by rw [← ot_even]; exact h.coh e0 hb' (Ne.symm n1)
        have nb1 : ot b ≠ 2 * m + 1 := fun e => n1 (by rw [← ot_ot b, e, ot_odd])
        have nb0 : ot b ≠ 2 * m := fun e => n2 (by rw [← ot_ot b, e, ot_even])
        obtain ⟨g1, g2⟩ := h.tri e1 (ot_lt hb') e0 nb1 (by omega) nb0 (by rw [c1]; exact pb.2) pa
        obtain ⟨g3, g4⟩ := h.tri e0 (ot_lt hb') hb' nb0 n1 (ot_ne b) g1 pb.2
        have u := hp.un (ot b) (ot_lt hb') (by rw [ot_div]; exact pb.1) (by rw [ot_ot]; exact g3)
        rw [ot_ot, vl_ot] at u
        omega
      · simp only [ea, eb, if_true, if_false] at pa pb ⊢
        have ha' : a < 2 * n := by omega
        obtain ⟨n1, n2⟩ := hne a pa.1
        have c1 : D (2 * m + 1) (ot a) = D a (2 * m) := by rw [← ot_even]; exact h.coh ha' e0 n1
        have na1 : ot a ≠ 2 * m + 1 := fun e => n1 (by rw [← ot_ot a, e, ot_odd])
        have na0 : ot a ≠ 2 * m := fun e => n2 (by rw [← ot_ot a, e, ot_even])
        obtain ⟨g1, g2⟩ := h.tri e0 ha' e1 n1 (by omega) n2 pa.2 pb
        obtain ⟨g3, g4⟩ := h.tri e1 ha' (ot_lt ha') n2 na1 (Ne.symm (ot_ne a)) g1 (by rw [c1]; exact pa.2)
        have u := hp.un a ha' pa.1 g3
        omega
      · simp only [ea, eb, if_false] at pa pb ⊢
        have ha' : a < 2 * n := by omega
        have hb' : b < 2 * n := by omega
        obtain ⟨n1, _⟩ := hne a pa.1
        obtain ⟨n2, _⟩ := hne b pb.1
        by_cases hab : a = b
        · subst hab
          have := h.round e0 ha' n1 pa.2 pb.2
          omega
        · obtain ⟨g1, g2⟩ := h.tri e0 ha' hb' n1 n2 hab pa.2 pb.2
          have := hp.bi a b ha' hb' hab pa.1 pb.1 g1
          omega)
  have v0 : vl (fun k => if k = m then t else x k) (2 * m) = t := by
    have a1 : 2 * m % 2 = 0 := by omega
    have a2 : 2 * m / 2 = m := by omega
    simp [vl, a1, a2]
  have v1 : vl (fun k => if k = m then t else x k) (2 * m + 1) = -t := by rw [← ot_even, vl_ot, v0]
  have vo : ∀ a, V (a / 2) → vl (fun k => if k = m then t else x k) a = vl x a := by
    intro a ha
    have : a / 2 ≠ m := fun e => hv (e ▸ ha)
    simp [vl, this]
  have lo1 : D (2 * m + 1) (2 * m) ≠ F → -(D (2 * m + 1) (2 * m) / 2) ≤ t := fun hf => by
    have := hlo (2 * n) (by omega) (by simpa using hf); simpa using this
  have hi1 : D (2 * m) (2 * m + 1) ≠ F → t ≤ D (2 * m) (2 * m + 1) / 2 := fun hf => by
    have := hhi (2 * n) (by omega) (by simpa using hf); simpa using this
  have lo2 : ∀ a, a < 2 * n → V (a / 2) → D a (2 * m) ≠ F → vl x a - D a (2 * m) ≤ t := fun a ha hva hf => by
    have e : a ≠ 2 * n := by omega
    have := hlo a (by omega) (by simp only [e, if_false]; exact ⟨hva, hf⟩); simpa only [e, if_false] using this
  have hi2 : ∀ b, b < 2 * n → V (b / 2) → D (2 * m) b ≠ F → t ≤ vl x b + D (2 * m) b := fun b hb hvb hf => by
    have e : b ≠ 2 * n := by omega
    have := hhi b (by omega) (by simp only [e, if_false]; exact ⟨hvb, hf⟩); simpa only [e, if_false] using this
  refine ⟨t, ?_, ?_⟩
  · intro i hi hvi hf
    rcases hvi with hvi | hvi
    · rw [vo i hvi]; exact hp.un i hi hvi hf
    · rcases half_eq hvi with e | e <;> subst e
      · rw [v0]; rw [ot_even] at hf ⊢; exact hi1 hf
      · rw [v1]; rw [ot_odd] at hf ⊢; have := lo1 hf; omega
  · intro i j hi hj hij hvi hvj hf
    rcases hvi with hvi | hvi <;> rcases hvj with hvj | hvj
    · rw [vo i hvi, vo j hvj]; exact hp.bi i j hi hj hij hvi hvj hf
    · rw [vo i hvi]
      rcases half_eq hvj with e | e <;> subst e
      · rw [v0]; have := lo2 i hi hvi hf; omega
      · rw [v1]
        have c : D (2 * m) (ot i) = D i (2 * m + 1) := by have := h.coh hi e1 hij; rwa [ot_odd] at this
        have := hi2 (ot i) (ot_lt hi) (by rw [ot_div]; exact hvi) (by rw [c]; exact hf)
        rw [vl_ot, c] at this
        omega
    · rw [vo j hvj]
      rcases half_eq hvi with e | e <;> subst e
      · rw [v0]; have := hi2 j hj hvj hf; omega
      · rw [v1]
        have c : D (ot j) (2 * m) = D (2 * m + 1) j := by have := h.coh e1 hj hij; rwa [ot_odd] at this
        have := lo2 (ot j) (ot_lt hj) (by rw [ot_div]; exact hvj) (by rw [c]; exact hf)
        rw [vl_ot, c] at this
        omega
    · rcases half_eq hvi with e | e <;> rcases half_eq hvj with e' | e' <;> subst e <;> subst e'
      · exact absurd rfl hij
      · rw [v0, v1]; have := hi1 hf; omega
      · rw [v0, v1]; have := lo1 hf; omega
      · exact absurd rfl hij

/-- All unknowns. -/
theorem Part.all {F Mx : Int} {l : List AM} {n : Nat} {D : Nat → Nat → Int} {T : Nat → Nat → Tr} (h : Fin F Mx l n D T) (ht : Tight F n D) {V : Nat → Prop} {x : Nat → Int} (hp : Part F n D V x) :
    ∃ y, Sat l y ∧ ∀ k, V k → y k = x k := by
  have key : ∀ m, m ≤ n → ∃ y, Part F n D (fun k => V k ∨ k < m) y ∧ ∀ k, V k → y k = x k := by
    intro m
    induction m with
    | zero => intro _; exact ⟨x, ⟨fun i hi hv => hp.un i hi (hv.resolve_right (by omega)), fun i j hi hj hij hv hv' => hp.bi i j hi hj hij (hv.resolve_right (by omega)) (hv'.resolve_right (by omega))⟩, fun _ _ => rfl⟩
    | succ m ih =>
      intro hm
      obtain ⟨y, hy, he⟩ := ih (by omega)
      have hto : ∀ k, (V k ∨ k < m + 1) → (V k ∨ k < m) ∨ k = m := by
        intro k hk
        rcases hk with hk | hk
        · exact .inl (.inl hk)
        · by_cases e : k = m
          · exact .inr e
          · exact .inl (.inr (by omega))
      by_cases hv : V m ∨ m < m
      · have hto' : ∀ k, (V k ∨ k < m + 1) → V k ∨ k < m := fun k hk => (hto k hk).elim id (fun e => e ▸ hv)
        exact ⟨y, ⟨fun i hi hv => hy.un i hi (hto' _ hv), fun i j hi hj hij hv hv' => hy.bi i j hi hj hij (hto' _ hv) (hto' _ hv')⟩, he⟩
      · obtain ⟨t, hz⟩ := hy.more h ht (by omega : m < n) hv
        refine ⟨_, ⟨fun i hi hv => hz.un i hi (hto _ hv), fun i j hi hj hij hv hv' => hz.bi i j hi hj hij (hto _ hv) (hto _ hv')⟩, fun k hk => ?_⟩
        have : k ≠ m := fun e => hv (.inl (e ▸ hk))
        simp only [this, if_false]
        exact he k hk
  obtain ⟨y, hy, he⟩ := key n (Nat.le_refl n)
  refine ⟨y, ?_, he⟩
  intro a ha
  obtain ⟨t, hta⟩ := List.getElem?_of_mem ha
  have o := h.ok a ha
  have hvn : ∀ k s, 0 ≤ k → k < (n : Int) → (V (nd k s / 2) ∨ nd k s / 2 < n) := fun k s h0 hk => .inr (by unfold nd; split <;> omega)
  by_cases hq : a.Q = 0
  · have e := Edge.un t a hta hq
    obtain ⟨f, g⟩ := h.st.edge _ _ _ _ e
    have := hy.un _ (nd_lt o.a0 o.an) (hvn _ _ o.a0 o.an) f
    rw [vl_nd y o.p] at this
    unfold lhs
    rw [hq]; omega
  · have e := Edge.bi t a hta hq
    obtain ⟨f, g⟩ := h.st.edge _ _ _ _ e
    obtain ⟨b0, b1, b2⟩ := o.b1 hq
    have hq' : -a.Q = 1 ∨ -a.Q = -1 := by have := o.q; omega
    have := hy.bi _ _ (nd_lt o.a0 o.an) (nd_lt b0 b1) (e.lt h.ok).2.2.1 (hvn _ _ o.a0 o.an) (hvn _ _ b0 b1) f
    rw [vl_nd y o.p, vl_nd y hq', Int.neg_mul] at this
    unfold lhs
    omega
end Go.Proofs.Ytnjbahiaelehkaa
