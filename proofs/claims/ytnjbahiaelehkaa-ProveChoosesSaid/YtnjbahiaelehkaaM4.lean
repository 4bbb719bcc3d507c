/- The checker of proofs, and what derivations say (no program in sight). -/
import Derived.Test.YtnjbahiaelehkaaM3
namespace Go.Proofs.Ytnjbahiaelehkaa

structure Stp where
  K : Int
  A : Int
  B : Int
/-- What a step says. -/
structure Sy where
  X : Nat → Int
  N : Int

def lnX (a : AM) (k : Nat) : Int := (if (k : Int) = a.A then a.P else 0) + (if (k : Int) = a.B then a.Q else 0)
def sy0 : Sy := ⟨fun _ => 0, 0⟩
def okX (N : Nat) (X : Nat → Int) : Bool := decide (∀ k, k < N → -100 ≤ X k ∧ X k ≤ 100)
def okN (n : Int) : Bool := decide (-1125899906842624 ≤ n ∧ n ≤ 1125899906842624)
def evenX (N : Nat) (X : Nat → Int) : Bool := decide (∀ k, k < N → X k % 2 = 0)
def stepR (N : Nat) (l : List AM) (done : List Sy) (s : Stp) : Option Sy :=
  if s.K = 1 then (if (0 ≤ s.A ∧ s.A ≤ (l.length : Int) - 1) ∧ s.B = 0 then some ⟨lnX (l.getD s.A.toNat am0), (l.getD s.A.toNat am0).M⟩ else none)
  else if s.K = 2 then (if (0 ≤ s.A ∧ s.A ≤ (done.length : Int) - 1) ∧ (0 ≤ s.B ∧ s.B ≤ (done.length : Int) - 1) then some ⟨fun k => (done.getD s.A.toNat sy0).X k + (done.getD s.B.toNat sy0).X k, (done.getD s.A.toNat sy0).N + (done.getD s.B.toNat sy0).N⟩ else none)
  else if s.K = 3 then (if ((0 ≤ s.A ∧ s.A ≤ (done.length : Int) - 1) ∧ s.B = 0) ∧ evenX N (done.getD s.A.toNat sy0).X = true then some ⟨fun k => (done.getD s.A.toNat sy0).X k / 2, (done.getD s.A.toNat sy0).N / 2⟩ else none)
  else none
def stepS (N : Nat) (l : List AM) (done : List Sy) (s : Stp) : Option Sy :=
  match stepR N l done s with
  | some x => if okX N x.X = true ∧ okN x.N = true then some x else none
  | none => none
def runS (N : Nat) (l : List AM) : List Sy → List Stp → Option (List Sy)
  | done, [] => some done
  | done, s :: p => match stepS N l done s with
    | some x => runS N l (done ++ [x]) p
    | none => none
def sayS (N : Nat) (l : List AM) (p : List Stp) : Option Sy := if 1 ≤ p.length ∧ p.length ≤ 400 then (match runS N l [] p with | some d => d.getLast? | none => none) else none
def zeroX (N : Nat) (X : Nat → Int) : Bool := decide (∀ k, k < N → X k = 0)
def noneS (N : Nat) (s : Sy) : Bool := zeroX N s.X && decide (s.N < 0)
def wantS (N : Nat) (a : AM) (s : Sy) : Bool := decide (∀ k, k < N → s.X k = lnX a k) && decide (s.N ≤ a.M)
/-- The error of a check. -/
def refB (N : Nat) (l : List AM) (p : List Stp) : Bool := match sayS N l p with | some s => noneS N s | none => false
def prfB (N : Nat) (l : List AM) (a : AM) (p : List Stp) : Bool := match sayS N l p with | some s => noneS N s || wantS N a s | none => false

/-- No multiples of numbers that are none. -/
def Van (n : Nat) (s : Sy) : Prop := ∀ k, n ≤ k → s.X k = 0

theorem lnX_van {n : Nat} {Mx : Int} {a : AM} (o : Ok n Mx a) (h1 : 1 ≤ n) (k : Nat) (hk : n ≤ k) : lnX a k = 0 := by
  unfold lnX
  have h := o.an
  have hB : a.B < n := by
    by_cases hq : a.Q = 0
    · rw [o.b0 hq]; omega
    · exact (o.b1 hq).2.1
  rw [if_neg (by omega), if_neg (by omega)]
  rfl
theorem am0_lnX (k : Nat) : lnX am0 k = 0 := by
  unfold lnX am0
  simp
theorem okX_van {n : Nat} {X : Nat → Int} (h : ∀ k, n ≤ k → X k = 0) {N : Nat} (hn : n ≤ N) : okX N X = okX n X := by
  unfold okX
  rw [decide_eq_decide]
  constructor
  · intro h' k hk
    exact h' k (by omega)
  · intro h' k hk
    by_cases hkn : k < n
    · exact h' k hkn
    · rw [h k (by omega)]; omega
theorem evenX_van {n : Nat} {X : Nat → Int} (h : ∀ k, n ≤ k → X k = 0) {N : Nat} (hn : n ≤ N) : evenX N X = evenX n X := by
  unfold evenX
  rw [decide_eq_decide]
  constructor
  · intro h' k hk
    exact h' k (by omega)
  · intro h' k hk
    by_cases hkn : k < n
    · exact h' k hkn
    · rw [h k (by omega)]; rfl
theorem getD_van {n : Nat} {done : List Sy} (h : ∀ s, s ∈ done → Van n s) (i : Nat) : Van n (done.getD i sy0) := by
  rw [List.getD_eq_getElem?_getD]
  cases e : done[i]? with
  | none => exact fun _ _ => rfl
  | some s => exact h s (List.mem_of_getElem? e)
theorem stepS_van {n : Nat} {Mx : Int} {l : List AM} (ok : ∀ a, a ∈ l → Ok n Mx a) (h1 : 1 ≤ n) {N : Nat} (hn : n ≤ N) {done : List Sy} (h : ∀ s, s ∈ done → Van n s) (s : Stp) :
    stepS N l done s = stepS n l done s ∧ ∀ x, stepS n l done s = some x → Van n x := by
  have hr : stepR N l done s = stepR n l done s := by
    unfold stepR
    rw [evenX_van (getD_van h _) hn]
  have hv : ∀ x, stepR n l done s = some x → Van n x := by
    intro x hx
    unfold stepR at hx
    split at hx
    · split at hx
      · injection hx with hx
        subst hx
        intro k hk
        show lnX _ k = 0
        rw [List.getD_eq_getElem?_getD]
        cases e : l[s.A.toNat]? with
        | none => exact am0_lnX k
        | some a => exact lnX_van (ok a (List.mem_of_getElem? e)) h1 k hk
      · cases hx
    · split at hx
      · split at hx
        · injection hx with hx
          subst hx
          intro k hk
          show Sy.X _ k + Sy.X _ k = 0
          rw [getD_van h _ k hk, getD_van h _ k hk]
          rfl
        · cases hx
      · split at hx
        · split at hx
          · injection hx with hx
            subst hx
            intro k hk
            show Sy.X _ k / 2 = 0
            rw [getD_van h _ k hk]
            rfl
          · cases hx
        · cases hx
  unfold stepS
  rw [hr]
  cases e : stepR n l done s with
  | none => exact ⟨rfl, fun x hx => by cases hx⟩
  | some x =>
    have hx := hv x e
    refine ⟨?_, fun y hy => ?_⟩
    · show (if okX N x.X = true ∧ okN x.N = true then some x else none) = _
      rw [okX_van hx hn]
    · have hy' : (if okX n x.X = true ∧ okN x.N = true then some x else none) = some y := hy
      split at hy'
      · injection hy' with hy'
        subst hy'
        exact hx
      · cases hy'
theorem runS_van {n : Nat} {Mx : Int} {l : List AM} (ok : ∀ a, a ∈ l → Ok n Mx a) (h1 : 1 ≤ n) {N : Nat} (hn : n ≤ N) : ∀ (p : List Stp) (done : List Sy), (∀ s, s ∈ done → Van n s) →
    runS N l done p = runS n l done p ∧ ∀ d, runS n l done p = some d → ∀ s, s ∈ d → Van n s
  | [], done, h => ⟨rfl, fun d hd => by injection hd with hd; subst hd; exact h⟩
  | s :: p, done, h => by
    obtain ⟨e1, e2⟩ := stepS_van ok h1 hn h s
    unfold runS
    rw [e1]
    cases e : stepS n l done s with
    | none => exact ⟨rfl, fun d hd => by cases hd⟩
    | some x =>
      exact runS_van ok h1 hn p (done ++ [x]) (fun y hy => by
        rcases List.mem_append.1 hy with hy | hy
        · exact h y hy
        · rw [List.mem_singleton.1 hy]; exact e2 x e)
theorem sayS_van {n : Nat} {Mx : Int} {l : List AM} (ok : ∀ a, a ∈ l → Ok n Mx a) (h1 : 1 ≤ n) {N : Nat} (hn : n ≤ N) (p : List Stp) : sayS N l p = sayS n l p ∧ ∀ s, sayS n l p = some s → Van n s := by
  obtain ⟨e1, e2⟩ := runS_van ok h1 hn p [] (fun s hs => by cases hs)
  unfold sayS
  rw [e1]
  refine ⟨rfl, fun s hs => ?_⟩
  split at hs
  · cases e : runS n l [] p with
    | none => rw [e] at hs; cases hs
    | some d => rw [e] at hs; exact e2 d e s (List.mem_of_getLast? hs)
  · cases hs
theorem noneS_van {n : Nat} {s : Sy} (h : Van n s) {N : Nat} (hn : n ≤ N) : noneS N s = noneS n s := by
  have e : zeroX N s.X = zeroX n s.X := by
    unfold zeroX
    rw [decide_eq_decide]
    constructor
    · intro h' k hk
      exact h' k (by omega)
    · intro h' k hk
      by_cases hkn : k < n
      · exact h' k hkn
      · exact h k (by omega)
  unfold noneS
  rw [e]
theorem wantS_van {n : Nat} {s : Sy} {Mx : Int} {a : AM} (o : Ok n Mx a) (h1 : 1 ≤ n) (h : Van n s) {N : Nat} (hn : n ≤ N) : wantS N a s = wantS n a s := by
  unfold wantS
  rw [show decide (∀ k, k < N → s.X k = lnX a k) = decide (∀ k, k < n → s.X k = lnX a k) from ?_]
  rw [decide_eq_decide]
  constructor
  · intro h' k hk
    exact h' k (by omega)
  · intro h' k hk
    by_cases hkn : k < n
    · exact h' k hkn
    · rw [h k (by omega), lnX_van o h1 k (by omega)]
theorem refB_van {n : Nat} {Mx : Int} {l : List AM} (ok : ∀ a, a ∈ l → Ok n Mx a) (h1 : 1 ≤ n) {N : Nat} (hn : n ≤ N) (p : List Stp) : refB N l p = refB n l p := by
  obtain ⟨e1, e2⟩ := sayS_van ok h1 hn p
  unfold refB
  rw [e1]
  cases e : sayS n l p with
  | none => rfl
  | some s => exact noneS_van (e2 s e) hn
theorem prfB_van {n : Nat} {Mx My : Int} {l : List AM} (ok : ∀ a, a ∈ l → Ok n Mx a) (h1 : 1 ≤ n) {N : Nat} (hn : n ≤ N) {a : AM} (o : Ok n My a) (p : List Stp) : prfB N l a p = prfB n l a p := by
  obtain ⟨e1, e2⟩ := sayS_van ok h1 hn p
  unfold prfB
  rw [e1]
  cases e : sayS n l p with
  | none => rfl
  | some s =>
    show (noneS N s || wantS N a s) = (noneS n s || wantS n a s)
    rw [noneS_van (e2 s e) hn, wantS_van o h1 (e2 s e) hn]

/-- Multiples of numbers, summed up. -/
def dot (X x : Nat → Int) : Nat → Int
  | 0 => 0
  | n + 1 => dot X x n + X n * x n
theorem dot_add (X Y x : Nat → Int) (n : Nat) : dot (fun k => X k + Y k) x n = dot X x n + dot Y x n := by
  induction n with
  | zero => rfl
  | succ n ih =>
    show dot (fun k => X k + Y k) x n + (X n + Y n) * x n = dot X x n + X n * x n + (dot Y x n + Y n * x n)
    rw [ih, Int.add_mul]
    omega
theorem dot_congr {X Y x : Nat → Int} {n : Nat} (h : ∀ k, k < n → X k = Y k) : dot X x n = dot Y x n := by
  induction n with
  | zero => rfl
  | succ n ih =>
    show dot X x n + X n * x n = dot Y x n + Y n * x n
    rw [ih (fun k hk => h k (by omega)), h n (by omega)]
theorem dot_zero (x : Nat → Int) (n : Nat) : dot (fun _ => 0) x n = 0 := by
  induction n with
  | zero => rfl
  | succ n ih =>
    show dot (fun _ => 0) x n + 0 * x n = 0
    rw [ih]; omega
theorem dot_one (x : Nat → Int) (A P : Int) (h0 : 0 ≤ A) (n : Nat) : dot (fun k => if (k : Int) = A then P else 0) x n = if A < n then P * x A.toNat else 0 := by
  induction n with
  | zero =>
    rw [if_neg (by omega)]
    rfl
  | succ n ih =>
    show dot _ x n + (if (n : Int) = A then P else 0) * x n = _
    rw [ih]
    by_cases e : (n : Int) = A
    · have e2 : A.toNat = n := by omega
      rw [if_neg (by omega), if_pos e, if_pos (by omega), e2]
      omega
    · rw [if_neg e]
      by_cases h : A < n
      · rw [if_pos h, if_pos (by omega)]; omega
      · rw [if_neg h, if_neg (by omega)]; omega
theorem dot_half {X x : Nat → Int} {n : Nat} (h : ∀ k, k < n → X k % 2 = 0) : 2 * dot (fun k => X k / 2) x n = dot X x n := by
  induction n with
  | zero => rfl
  | succ n ih =>
    show 2 * (dot (fun k => X k / 2) x n + X n / 2 * x n) = dot X x n + X n * x n
    have e : X n = 2 * (X n / 2) := by have := h n (by omega); omega
    have e2 : X n * x n = 2 * (X n / 2 * x n) := by
      rw [← Int.mul_assoc, ← e]
    rw [Int.mul_add, ih (fun k hk => h k (by omega)), e2]
theorem dot_line {n : Nat} {Mx : Int} {a : AM} (o : Ok n Mx a) (x : Nat → Int) : dot (lnX a) x n = lhs x a := by
  have hB : 0 ≤ a.B ∧ (a.Q ≠ 0 → a.B < n) := by
    by_cases hq : a.Q = 0
    · rw [o.b0 hq]; exact ⟨Int.le_refl _, fun h => absurd hq h⟩
    · exact ⟨(o.b1 hq).1, fun _ => (o.b1 hq).2.1⟩
  have e : dot (lnX a) x n = dot (fun k => (if (k : Int) = a.A then a.P else 0) + (if (k : Int) = a.B then a.Q else 0)) x n := rfl
  rw [e, dot_add, dot_one x a.A a.P o.a0, dot_one x a.B a.Q hB.1, if_pos o.an]
  unfold lhs
  by_cases hq : a.Q = 0
  · rw [hq]; simp
  · rw [if_pos (hB.2 hq)]

theorem stepS_sound {n N : Nat} {Mx : Int} {l : List AM} (ok : ∀ a, a ∈ l → Ok n Mx a) (hN : n ≤ N) {x : Nat → Int} (hx : Sat l x) {done : List Sy} (h : ∀ s, s ∈ done → dot s.X x n ≤ s.N) {s : Stp} {y : Sy} (hs : stepS N l done s = some y) : dot y.X x n ≤ y.N := by
  have hg : ∀ i, dot (done.getD i sy0).X x n ≤ (done.getD i sy0).N := by
    intro i
    rw [List.getD_eq_getElem?_getD]
    cases e : done[i]? with
    | none => exact Int.le_of_eq (dot_zero x n)
    | some s => exact h s (List.mem_of_getElem? e)
  have hr : stepR N l done s = some y := by
    unfold stepS at hs
    cases e : stepR N l done s with
    | none => rw [e] at hs; cases hs
    | some z =>
      rw [e] at hs
      have hs' : (if okX N z.X = true ∧ okN z.N = true then some z else none) = some y := hs
      split at hs'
      · exact hs'
      · cases hs'
  unfold stepR at hr
  split at hr
  · split at hr
    · rename_i hc
      injection hr with hr
      subst hr
      have hlt : s.A.toNat < l.length := by omega
      have e : l.getD s.A.toNat am0 = l[s.A.toNat] := by rw [List.getD_eq_getElem?_getD, List.getElem?_eq_getElem hlt]; rfl
      show dot (lnX (l.getD s.A.toNat am0)) x n ≤ (l.getD s.A.toNat am0).M
      rw [e, dot_line (ok _ (List.getElem_mem hlt))]
      exact hx _ (List.getElem_mem hlt)
    · cases hr
  · split at hr
    · split at hr
      · injection hr with hr
        subst hr
        show dot (fun k => _ + _) x n ≤ _ + _
        rw [dot_add]
        have := hg s.A.toNat
        have := hg s.B.toNat
        omega
      · cases hr
    · split at hr
      · split at hr
        · rename_i hc
          injection hr with hr
          subst hr
          have he : ∀ k, k < n → (done.getD s.A.toNat sy0).X k % 2 = 0 := by
            have := hc.2
            unfold evenX at this
            intro k hk
            exact (of_decide_eq_true this) k (by omega)
          have e2 := dot_half (x := x) he
          have := hg s.A.toNat
          show dot (fun k => (done.getD s.A.toNat sy0).X k / 2) x n ≤ (done.getD s.A.toNat sy0).N / 2
          omega
        · cases hr
      · cases hr
theorem runS_sound {n N : Nat} {Mx : Int} {l : List AM} (ok : ∀ a, a ∈ l → Ok n Mx a) (hN : n ≤ N) {x : Nat → Int} (hx : Sat l x) : ∀ (p : List Stp) (done : List Sy), (∀ s, s ∈ done → dot s.X x n ≤ s.N) → ∀ d, runS N l done p = some d → ∀ s, s ∈ d → dot s.X x n ≤ s.N
  | [], done, h, d, hd => by injection hd with hd; subst hd; exact h
  | s :: p, done, h, d, hd => by
    unfold runS at hd
    cases e : stepS N l done s with
    | none => rw [e] at hd; cases hd
    | some y =>
      rw [e] at hd
      exact runS_sound ok hN hx p (done ++ [y]) (fun z hz => by
        rcases List.mem_append.1 hz with hz | hz
        · exact h z hz
        · rw [List.mem_singleton.1 hz]; exact stepS_sound ok hN hx h e) d hd
theorem sayS_sound {n N : Nat} {Mx : Int} {l : List AM} (ok : ∀ a, a ∈ l → Ok n Mx a) (hN : n ≤ N) {x : Nat → Int} (hx : Sat l x) {p : List Stp} {s : Sy} (h : sayS N l p = some s) : dot s.X x n ≤ s.N := by
  unfold sayS at h
  split at h
  · cases e : runS N l [] p with
    | none => rw [e] at h; cases h
    | some d => rw [e] at h; exact runS_sound ok hN hx p [] (fun s hs => by cases hs) d e s (List.mem_of_getLast? h)
  · cases h
theorem noneS_dot {n N : Nat} (hN : n ≤ N) {s : Sy} {x : Nat → Int} (h : noneS N s = true) (hd : dot s.X x n ≤ s.N) : False := by
  unfold noneS zeroX at h
  rw [Bool.and_eq_true, decide_eq_true_eq, decide_eq_true_eq] at h
  have e : dot s.X x n = dot (fun _ => 0) x n := dot_congr fun k hk => h.1 k (by omega)
  rw [e, dot_zero] at hd
  omega
/-- A proof that refutes lines refutes them. -/
theorem refB_sound {n N : Nat} {Mx : Int} {l : List AM} (ok : ∀ a, a ∈ l → Ok n Mx a) (hN : n ≤ N) {p : List Stp} (h : refB N l p = true) : possB l = false := by
  cases e : possB l with
  | false => rfl
  | true =>
    obtain ⟨x, hx⟩ := possB_iff.1 e
    unfold refB at h
    cases es : sayS N l p with
    | none => rw [es] at h; cases h
    | some s => rw [es] at h; exact (noneS_dot hN h (sayS_sound ok hN hx es)).elim
/-- A proof that proves a line proves it. -/
theorem prfB_sound {n N : Nat} {Mx My : Int} {l : List AM} (ok : ∀ a, a ∈ l → Ok n Mx a) (hN : n ≤ N) {a : AM} (o : Ok n My a) {p : List Stp} (h : prfB N l a p = true) : entB l a = true := by
  rw [entB_iff]
  intro x hx
  unfold prfB at h
  cases es : sayS N l p with
  | none => rw [es] at h; cases h
  | some s =>
    rw [es] at h
    have hd := sayS_sound ok hN hx es
    have h' : (noneS N s || wantS N a s) = true := h
    rw [Bool.or_eq_true] at h'
    rcases h' with h' | h'
    · exact (noneS_dot hN h' hd).elim
    · unfold wantS at h'
      rw [Bool.and_eq_true, decide_eq_true_eq, decide_eq_true_eq] at h'
      have e : dot s.X x n = dot (lnX a) x n := dot_congr fun k hk => h'.1 k (by omega)
      rw [e, dot_line o] at hd
      omega
end Go.Proofs.Ytnjbahiaelehkaa
