/- Derivations as lists of steps: the checker takes them (no program in sight). -/
import Derived.Test.YtnjbahiaelehkaaM4
namespace Go.Proofs.Ytnjbahiaelehkaa

def nodes : Tr → Nat
  | .line _ => 1
  | .sum x y => nodes x + nodes y + 1
  | .half x => nodes x + 1
/-- Step k of S says what the tree says. -/
def Lin (S : List Stp) : Nat → Tr → Prop
  | k, .line i => S[k]? = some ⟨1, i, 0⟩
  | k, .sum x y => ∃ a b : Nat, S[k]? = some ⟨2, a, b⟩ ∧ a < k ∧ b < k ∧ Lin S a x ∧ Lin S b y
  | k, .half x => ∃ a : Nat, S[k]? = some ⟨3, a, 0⟩ ∧ a < k ∧ Lin S a x
theorem more_at {S S' : List Stp} {k : Nat} {s : Stp} (h : S[k]? = some s) : (S ++ S')[k]? = some s := by
  rw [List.getElem?_append_left]
  · exact h
  · exact (List.getElem?_eq_some_iff.1 h).1
theorem Lin.more {S S' : List Stp} : ∀ {X : Tr} {k : Nat}, Lin S k X → Lin (S ++ S') k X
  | .line _, _, h => more_at h
  | .sum _ _, _, ⟨a, b, h, ha, hb, hx, hy⟩ => ⟨a, b, more_at h, ha, hb, hx.more, hy.more⟩
  | .half _, _, ⟨a, h, ha, hx⟩ => ⟨a, more_at h, ha, hx.more⟩
theorem Lin.lt {S : List Stp} {k : Nat} {X : Tr} (h : Lin S k X) : k < S.length := by
  cases X with
  | line i => exact (List.getElem?_eq_some_iff.1 h).1
  | sum x y =>
    obtain ⟨a, b, h, _⟩ := h
    exact (List.getElem?_eq_some_iff.1 h).1
  | half x =>
    obtain ⟨a, h, _⟩ := h
    exact (List.getElem?_eq_some_iff.1 h).1
theorem stp_inj {a : Option Stp} {K A B K' A' B' : Int} (h : a = some ⟨K, A, B⟩) (h' : a = some ⟨K', A', B'⟩) : K = K' ∧ A = A' ∧ B = B' := by
  rw [h] at h'
  injection h' with h'
  injection h' with h1 h2 h3
  exact ⟨h1, h2, h3⟩
theorem Lin.same {S : List Stp} : ∀ {X Y : Tr} {k : Nat}, Lin S k X → Lin S k Y → X = Y
  | .line i, .line j, k, h, h' => by
    have := (stp_inj h h').2.1
    rw [show i = j by omega]
  | .line i, .sum x y, k, h, ⟨a, b, h', _⟩ => absurd (stp_inj h h').1 (by decide)
  | .line i, .half x, k, h, ⟨a, h', _⟩ => absurd (stp_inj h h').1 (by decide)
  | .sum x y, .line i, k, ⟨a, b, h, _⟩, h' => absurd (stp_inj h h').1 (by decide)
  | .sum x y, .sum x' y', k, ⟨a, b, h, _, _, hx, hy⟩, ⟨a', b', h', _, _, hx', hy'⟩ => by
    obtain ⟨_, e1, e2⟩ := stp_inj h h'
    have e3 : a = a' := by omega
    have e4 : b = b' := by omega
    subst e3; subst e4
    rw [Lin.same hx hx', Lin.same hy hy']
  | .sum x y, .half x', k, ⟨a, b, h, _⟩, ⟨a', h', _⟩ => absurd (stp_inj h h').1 (by decide)
  | .half x, .line i, k, ⟨a, h, _⟩, h' => absurd (stp_inj h h').1 (by decide)
  | .half x, .sum x' y', k, ⟨a, h, _⟩, ⟨a', b', h', _⟩ => absurd (stp_inj h h').1 (by decide)
  | .half x, .half x', k, ⟨a, h, _, hx⟩, ⟨a', h', _, hx'⟩ => by
    obtain ⟨_, e1, _⟩ := stp_inj h h'
    have e3 : a = a' := by omega
    subst e3
    rw [Lin.same hx hx']
/-- A part of a derivation. -/
inductive Sub : Tr → Tr → Prop
  | refl (X : Tr) : Sub X X
  | left {Y x y : Tr} (h : Sub Y x) : Sub Y (.sum x y)
  | right {Y x y : Tr} (h : Sub Y y) : Sub Y (.sum x y)
  | down {Y x : Tr} (h : Sub Y x) : Sub Y (.half x)
theorem Sub.nodes {X Y : Tr} (h : Sub Y X) : nodes Y ≤ nodes X := by
  induction h with
  | refl => exact Nat.le_refl _
  | left _ ih => exact Nat.le_trans ih (by show _ ≤ Go.Proofs.Ytnjbahiaelehkaa.nodes _ + Go.Proofs.Ytnjbahiaelehkaa.nodes _ + 1; omega)
  | right _ ih => exact Nat.le_trans ih (by show _ ≤ Go.Proofs.Ytnjbahiaelehkaa.nodes _ + Go.Proofs.Ytnjbahiaelehkaa.nodes _ + 1; omega)
  | down _ ih => show _ ≤ Go.Proofs.Ytnjbahiaelehkaa.nodes _ + 1; omega

def cf (l : List AM) : Tr → Nat → Int
  | .line i => lnX (l.getD i am0)
  | .sum x y => fun k => cf l x k + cf l y k
  | .half x => fun k => cf l x k / 2
def bd (l : List AM) : Tr → Int
  | .line i => (l.getD i am0).M
  | .sum x y => bd l x + bd l y
  | .half x => bd l x / 2
def Small (l : List AM) (X : Tr) : Prop := (∀ k, -100 ≤ cf l X k ∧ cf l X k ≤ 100) ∧ okN (bd l X) = true
/-- A derivation that the checker takes. -/
def Gd (l : List AM) : Tr → Prop
  | .line i => i < l.length ∧ Small l (.line i)
  | .sum x y => (Gd l x ∧ Gd l y) ∧ Small l (.sum x y)
  | .half x => (Gd l x ∧ ∀ k, cf l x k % 2 = 0) ∧ Small l (.half x)
theorem Gd.small {l : List AM} {X : Tr} (h : Gd l X) : Small l X := by
  cases X with
  | line i => exact h.2
  | sum x y => exact h.2
  | half x => exact h.2
theorem Gd.sub {l : List AM} {X Y : Tr} (h : Gd l X) (s : Sub Y X) : Gd l Y := by
  induction s with
  | refl => exact h
  | left _ ih => exact ih h.1.1
  | right _ ih => exact ih h.1.2
  | down _ ih => exact ih h.1.1
def syT (l : List AM) (X : Tr) : Sy := ⟨cf l X, bd l X⟩

theorem stepS_lin {l : List AM} {N : Nat} {S : List Stp} {done : List Sy} {Y : Tr} (hg : Gd l Y) (hd : ∀ i Z, i < done.length → Lin S i Z → done[i]? = some (syT l Z)) (hl : Lin S done.length Y) {s : Stp} (hs : S[done.length]? = some s) :
    stepS N l done s = some (syT l Y) := by
  have hsm := hg.small
  have hr : stepR N l done s = some (syT l Y) := by
    cases Y with
    | line i =>
      have e : some s = some (⟨1, i, 0⟩ : Stp) := hs.symm.trans hl
      injection e with e
      subst e
      have hlt := hg.1
      unfold stepR
      rw [if_pos rfl, if_pos ⟨⟨by simp, by show (i : Int) ≤ _; omega⟩, rfl⟩]
      rfl
    | sum x y =>
      obtain ⟨a, b, h, ha, hb, hx, hy⟩ := hl
      have e : some s = some (⟨2, a, b⟩ : Stp) := hs.symm.trans h
      injection e with e
      subst e
      have e1 : done.getD ((a : Int).toNat) sy0 = syT l x := by rw [List.getD_eq_getElem?_getD, Int.toNat_natCast, hd a x ha hx]; rfl
      have e2 : done.getD ((b : Int).toNat) sy0 = syT l y := by rw [List.getD_eq_getElem?_getD, Int.toNat_natCast, hd b y hb hy]; rfl
      unfold stepR
      rw [if_neg (show ¬((2 : Int) = 1) by decide), if_pos rfl, if_pos ⟨⟨by simp, by show (a : Int) ≤ _; omega⟩, ⟨by simp, by show (b : Int) ≤ _; omega⟩⟩, e1, e2]
      rfl
    | half x =>
      obtain ⟨a, h, ha, hx⟩ := hl
      have e : some s = some (⟨3, a, 0⟩ : Stp) := hs.symm.trans h
      injection e with e
      subst e
      have e1 : done.getD ((a : Int).toNat) sy0 = syT l x := by rw [List.getD_eq_getElem?_getD, Int.toNat_natCast, hd a x ha hx]; rfl
      have he : evenX N (syT l x).X = true := by
        unfold evenX
        rw [decide_eq_true_eq]
        intro k _
        exact hg.1.2 k
      unfold stepR
      rw [e1, if_neg (show ¬((3 : Int) = 1) by decide), if_neg (show ¬((3 : Int) = 2) by decide), if_pos rfl, if_pos ⟨⟨⟨by simp, by show (a : Int) ≤ _; omega⟩, rfl⟩, he⟩]
      rfl
  unfold stepS
  rw [hr]
  have hx : okX N (syT l Y).X = true := by
    unfold okX
    rw [decide_eq_true_eq]
    intro k _
    exact hsm.1 k
  show (if okX N (syT l Y).X = true ∧ okN (syT l Y).N = true then some (syT l Y) else none) = _
  rw [if_pos ⟨hx, hsm.2⟩]
theorem runS_lin {l : List AM} {N : Nat} {S : List Stp} (h : ∀ i, i < S.length → ∃ Y, Lin S i Y ∧ Gd l Y) : ∀ (p pre : List Stp) (done : List Sy), S = pre ++ p → done.length = pre.length → (∀ i Z, i < done.length → Lin S i Z → done[i]? = some (syT l Z)) →
    ∃ d, runS N l done p = some d ∧ d.length = S.length ∧ ∀ i Z, Lin S i Z → d[i]? = some (syT l Z)
  | [], pre, done, e, hlen, hd => by
    rw [List.append_nil] at e
    subst e
    exact ⟨done, rfl, hlen, fun i Z hz => hd i Z (by have := hz.lt; omega) hz⟩
  | s :: p, pre, done, e, hlen, hd => by
    have hlt : done.length < S.length := by rw [e, List.length_append, List.length_cons]; omega
    obtain ⟨Y, hY, hg⟩ := h _ hlt
    have hs : S[done.length]? = some s := by
      rw [e, hlen, List.getElem?_append_right (Nat.le_refl _), Nat.sub_self]
      rfl
    have hst := stepS_lin (N := N) hg hd hY hs
    unfold runS
    rw [hst]
    refine runS_lin h p (pre ++ [s]) (done ++ [syT l Y]) (by rw [e]; simp) (by simp [hlen]) (fun i Z hi hz => ?_)
    rw [List.length_append, List.length_singleton] at hi
    by_cases hi' : i < done.length
    · rw [List.getElem?_append_left hi']
      exact hd i Z hi' hz
    · have ei : i = done.length := by omega
      subst ei
      rw [List.getElem?_append_right (Nat.le_refl _), Nat.sub_self, hz.same hY]
      rfl
theorem sayS_lin {l : List AM} {N : Nat} {S : List Stp} (h : ∀ i, i < S.length → ∃ Y, Lin S i Y ∧ Gd l Y) {k : Nat} {X : Tr} (hX : Lin S k X) (hk : k + 1 = S.length) (hS : S.length ≤ 400) : sayS N l S = some (syT l X) := by
  obtain ⟨d, hd, hlen, hall⟩ := runS_lin (N := N) h S [] [] rfl rfl (fun i Z hi => absurd hi (Nat.not_lt_zero i))
  unfold sayS
  rw [if_pos ⟨by omega, hS⟩, hd]
  show d.getLast? = _
  rw [List.getLast?_eq_getElem?, hlen, ← hk, Nat.add_sub_cancel]
  exact hall k X hX

/-- The multiples that an end stands for. -/
def ev (i k : Nat) : Int := if i / 2 = k then (if i % 2 = 0 then 1 else -1) else 0
theorem ev_ot (i k : Nat) : ev (ot i) k = -(ev i k) := by
  unfold ev
  rw [ot_div]
  by_cases h : i / 2 = k
  · rw [if_pos h, if_pos h]
    unfold ot
    by_cases h2 : i % 2 = 0
    · rw [if_pos h2, if_pos h2, if_neg (by omega)]
    · rw [if_neg h2, if_neg h2, if_pos (by omega)]
      rfl
  · rw [if_neg h, if_neg h]
    rfl
theorem ev_nd {A s : Int} (h0 : 0 ≤ A) (hs : s = 1 ∨ s = -1) (k : Nat) : ev (nd A s) k = if (k : Int) = A then s else 0 := by
  rcases hs with rfl | rfl
  · have e : nd A 1 = 2 * A.toNat := rfl
    rw [e]
    unfold ev
    by_cases h : (k : Int) = A
    · rw [if_pos h, if_pos (by omega), if_pos (by omega)]
    · rw [if_neg h, if_neg (by omega)]
  · have e : nd A (-1) = 2 * A.toNat + 1 := rfl
    rw [e]
    unfold ev
    by_cases h : (k : Int) = A
    · rw [if_pos h, if_pos (by omega), if_neg (by omega)]
    · rw [if_neg h, if_neg (by omega)]
theorem ev_le (i k : Nat) : -1 ≤ ev i k ∧ ev i k ≤ 1 := by
  unfold ev
  split
  · split <;> omega
  · omega
theorem lnX_ev {n : Nat} {Mx : Int} {a : AM} (o : Ok n Mx a) (k : Nat) : lnX a k = if a.Q = 0 then ev (nd a.A a.P) k else ev (nd a.A a.P) k - ev (nd a.B (-a.Q)) k := by
  unfold lnX
  rw [ev_nd o.a0 o.p]
  by_cases hq : a.Q = 0
  · rw [if_pos hq, hq]
    simp
  · rw [if_neg hq, ev_nd (o.b1 hq).1 (by have := o.q; omega)]
    split <;> split <;> omega
theorem lnX_le {n : Nat} {Mx : Int} {a : AM} (o : Ok n Mx a) (k : Nat) : -2 ≤ lnX a k ∧ lnX a k ≤ 2 := by
  rw [lnX_ev o]
  have h1 := ev_le (nd a.A a.P) k
  have h2 := ev_le (nd a.B (-a.Q)) k
  split <;> omega
theorem getD_of {l : List AM} {t : Nat} {a : AM} (h : l[t]? = some a) : l.getD t am0 = a := by rw [List.getD_eq_getElem?_getD, h]; rfl

theorem Edge.cf {l : List AM} {n : Nat} {Mx : Int} (ok : ∀ a, a ∈ l → Ok n Mx a) {i j : Nat} {c : Int} {T : Tr} (h : Edge l i j c T) : (∀ k, cf l T k = ev i k - ev j k) ∧ bd l T = c := by
  cases h with
  | un t a h hq =>
    have o := ok a (List.mem_of_getElem? h)
    refine ⟨fun k => ?_, ?_⟩
    · show lnX (l.getD t am0) k + lnX (l.getD t am0) k = _
      rw [getD_of h, lnX_ev o, if_pos hq, ev_ot]
      omega
    · show (l.getD t am0).M + (l.getD t am0).M = _
      rw [getD_of h]
      omega
  | bi t a h hq =>
    have o := ok a (List.mem_of_getElem? h)
    refine ⟨fun k => ?_, ?_⟩
    · show lnX (l.getD t am0) k = _
      rw [getD_of h, lnX_ev o, if_neg hq]
    · show (l.getD t am0).M = _
      rw [getD_of h]
  | bj t a h hq =>
    have o := ok a (List.mem_of_getElem? h)
    refine ⟨fun k => ?_, ?_⟩
    · show lnX (l.getD t am0) k = _
      rw [getD_of h, lnX_ev o, if_neg hq, ev_ot, ev_ot]
      omega
    · show (l.getD t am0).M = _
      rw [getD_of h]
theorem Why.cf {l : List AM} {n : Nat} {Mx : Int} (ok : ∀ a, a ∈ l → Ok n Mx a) {i j : Nat} {c : Int} {T : Tr} {p : List Nat} (h : Why l i j c T p) : (∀ k, cf l T k = ev i k - ev j k) ∧ bd l T = c := by
  induction h with
  | edge h => exact h.cf ok
  | sum h h' ih ih' =>
    refine ⟨fun k => ?_, ?_⟩
    · show Go.Proofs.Ytnjbahiaelehkaa.cf l _ k + Go.Proofs.Ytnjbahiaelehkaa.cf l _ k = _
      rw [ih.1, ih'.1]
      omega
    · show bd l _ + bd l _ = _
      rw [ih.2, ih'.2]
theorem okN_of {c B : Int} (h : -B ≤ c ∧ c ≤ B) (hB : B ≤ 1125899906842624) : okN c = true := by
  unfold okN
  rw [decide_eq_true_eq]
  omega
theorem Why.small {l : List AM} {n : Nat} (ok : ∀ a, a ∈ l → Ok n 1000000 a) {i j : Nat} {c : Int} {T : Tr} {p : List Nat} (h : Why l i j c T p) (hp : p.length ≤ 100) : Small l T := by
  obtain ⟨h1, h2⟩ := h.cf ok
  refine ⟨fun k => ?_, ?_⟩
  · rw [h1]
    have := ev_le i k
    have := ev_le j k
    omega
  · rw [h2]
    have := h.weight ok
    exact okN_of (B := 1000000000) (by omega) (by decide)
theorem line_gd {l : List AM} {n : Nat} (ok : ∀ a, a ∈ l → Ok n 1000000 a) {t : Nat} {a : AM} (h : l[t]? = some a) : Gd l (.line t) := by
  have o := ok a (List.mem_of_getElem? h)
  refine ⟨(List.getElem?_eq_some_iff.1 h).1, fun k => ?_, ?_⟩
  · show -100 ≤ lnX (l.getD t am0) k ∧ lnX (l.getD t am0) k ≤ 100
    rw [getD_of h]
    have := lnX_le o k
    omega
  · show okN (l.getD t am0).M = true
    rw [getD_of h]
    exact okN_of (B := 1000000) ⟨o.lo, o.hi⟩ (by decide)
theorem Why.gd {l : List AM} {n : Nat} (ok : ∀ a, a ∈ l → Ok n 1000000 a) {i j : Nat} {c : Int} {T : Tr} {p : List Nat} (h : Why l i j c T p) (hp : p.length ≤ 100) : Gd l T ∧ nodes T + 1 ≤ 4 * (p.length + 1) := by
  induction h with
  | edge h =>
    have hsm := (Why.edge h).small ok hp
    cases h with
    | un t a h hq => exact ⟨⟨⟨line_gd ok h, line_gd ok h⟩, hsm⟩, by show 1 + 1 + 1 + 1 ≤ 4 * (0 + 1); decide⟩
    | bi t a h hq => exact ⟨line_gd ok h, by show 1 + 1 ≤ 4 * (0 + 1); decide⟩
    | bj t a h hq => exact ⟨line_gd ok h, by show 1 + 1 ≤ 4 * (0 + 1); decide⟩
  | @sum i k j c c' T T' p p' h h' ih ih' =>
    have hsm := (Why.sum h h').small ok hp
    rw [List.length_append, List.length_cons] at hp
    obtain ⟨g1, n1⟩ := ih (by omega)
    obtain ⟨g2, n2⟩ := ih' (by omega)
    refine ⟨⟨⟨g1, g2⟩, hsm⟩, ?_⟩
    show nodes T + nodes T' + 1 + 1 ≤ _
    rw [List.length_append, List.length_cons]
    omega
theorem Simple.short {n i j : Nat} {p : List Nat} (hn : n ≤ 12) (h : Simple (2 * n) i j p) (hi : i < 2 * n) (hj : j < 2 * n) (hij : i ≠ j) : p.length ≤ 22 := by
  have := h.len hi hj hij
  omega
/-- Half of a way from an end to its opposite. -/
theorem half_gd {l : List AM} {n : Nat} (ok : ∀ a, a ∈ l → Ok n 1000000 a) (hn : n ≤ 12) {i : Nat} {c : Int} {T : Tr} {p : List Nat} (hi : i < 2 * n) (h : Why l i (ot i) c T p) (hs : Simple (2 * n) i (ot i) p) :
    Gd l (.half T) ∧ nodes (.half T) ≤ 92 ∧ (∀ k, cf l (.half T) k = ev i k) ∧ bd l (.half T) = c / 2 := by
  have hp := hs.short hn hi (ot_lt hi) (Ne.symm (ot_ne i))
  obtain ⟨g, m⟩ := h.gd ok (by omega)
  obtain ⟨h1, h2⟩ := h.cf ok
  have h3 : ∀ k, cf l (.half T) k = ev i k := fun k => by
    show cf l T k / 2 = _
    rw [h1, ev_ot]
    omega
  have h4 : bd l (.half T) = c / 2 := by
    show bd l T / 2 = _
    rw [h2]
  refine ⟨⟨⟨g, fun k => by rw [h1, ev_ot]; omega⟩, fun k => ?_, ?_⟩, ?_, h3, h4⟩
  · rw [h3]
    have := ev_le i k
    omega
  · rw [h4]
    have := h.weight ok
    exact okN_of (B := 1000000000) (by omega) (by decide)
  · show nodes T + 1 ≤ 92
    omega
/-- A derivation that says a line, or more. -/
inductive PrT (l : List AM) (n : Nat) (a : AM) : Int → Tr → Prop
  | un {c : Int} {X : Tr} {p : List Nat} (hq : a.Q = 0) (h : Why l (nd a.A a.P) (ot (nd a.A a.P)) c X p) (hs : Simple (2 * n) (nd a.A a.P) (ot (nd a.A a.P)) p) : PrT l n a (c / 2) (.half X)
  | bi {c : Int} {X : Tr} {p : List Nat} (hq : a.Q ≠ 0) (h : Why l (nd a.A a.P) (nd a.B (-a.Q)) c X p) (hs : Simple (2 * n) (nd a.A a.P) (nd a.B (-a.Q)) p) : PrT l n a c X
  | two {c c' : Int} {X X' : Tr} {p p' : List Nat} (hq : a.Q ≠ 0) (h : Why l (nd a.A a.P) (ot (nd a.A a.P)) c X p) (hs : Simple (2 * n) (nd a.A a.P) (ot (nd a.A a.P)) p)
      (h' : Why l (ot (nd a.B (-a.Q))) (nd a.B (-a.Q)) c' X' p') (hs' : Simple (2 * n) (ot (nd a.B (-a.Q))) (nd a.B (-a.Q)) p') : PrT l n a (c / 2 + c' / 2) (.sum (.half X) (.half X'))
theorem PrT.gd {l : List AM} {n : Nat} (ok : ∀ a, a ∈ l → Ok n 1000000 a) (hn : n ≤ 12) {a : AM} {My : Int} (o : Ok n My a) {m : Int} {X : Tr} (h : PrT l n a m X) : Gd l X ∧ nodes X ≤ 400 ∧ (∀ k, cf l X k = lnX a k) ∧ bd l X = m := by
  have hi := nd_lt (s := a.P) o.a0 o.an
  cases h with
  | un hq h hs =>
    obtain ⟨h1, h2, h3, h4⟩ := half_gd ok hn hi h hs
    exact ⟨h1, by omega, fun k => by rw [h3, lnX_ev o, if_pos hq], h4⟩
  | bi hq h hs =>
    have hj := nd_lt (s := -a.Q) (o.b1 hq).1 (o.b1 hq).2.1
    have hne : nd a.A a.P ≠ nd a.B (-a.Q) := by
      intro e
      have := (o.b1 hq).2.2
      have := o.a0
      have := (o.b1 hq).1
      unfold nd at e
      split at e <;> split at e <;> omega
    have hp := hs.short hn hi hj hne
    obtain ⟨g, m⟩ := h.gd ok (by omega)
    obtain ⟨h1, h2⟩ := h.cf ok
    exact ⟨g, by omega, fun k => by rw [h1, lnX_ev o, if_neg hq], h2⟩
  | @two c c' Y Y' p p' hq h hs h' hs' =>
    have hj := nd_lt (s := -a.Q) (o.b1 hq).1 (o.b1 hq).2.1
    obtain ⟨h1, h2, h3, h4⟩ := half_gd ok hn hi h hs
    have e := ot_ot (nd a.B (-a.Q))
    obtain ⟨k1, k2, k3, k4⟩ := half_gd (i := ot (nd a.B (-a.Q))) ok hn (ot_lt hj) (by rw [e]; exact h') (by rw [e]; exact hs')
    have hc : ∀ k, cf l (.sum (.half Y) (.half Y')) k = lnX a k := fun k => by
      show cf l (.half Y) k + cf l (.half Y') k = _
      rw [h3, k3, lnX_ev o, if_neg hq, ev_ot]
      omega
    have hb : bd l (.sum (.half Y) (.half Y')) = c / 2 + c' / 2 := by
      show bd l (.half Y) + bd l (.half Y') = _
      rw [h4, k4]
    refine ⟨⟨⟨h1, k1⟩, fun k => ?_, ?_⟩, ?_, hc, hb⟩
    · rw [hc]
      have := lnX_le o k
      omega
    · rw [hb]
      have w1 := h.weight ok
      have w2 := h'.weight ok
      have p1 := hs.short hn hi (ot_lt hi) (Ne.symm (ot_ne _))
      have p2 := hs'.short hn (ot_lt hj) hj (ot_ne _)
      exact okN_of (B := 1000000000) (by omega) (by decide)
    · show nodes (.half Y) + nodes (.half Y') + 1 ≤ 400
      omega
end Go.Proofs.Ytnjbahiaelehkaa
