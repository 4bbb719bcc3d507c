/- The contract of lines of package prove: lines are put into bounds. -/
import Derived.Test.YtnjbahiaelehkaaA6
namespace Go.Proofs.Ytnjbahiaelehkaa
open Go.RowKit

/-- What has been put into the bounds so far. -/
structure Cov (l : List AM) (E : Nat → Nat → Int → Prop) (D : Nat → Nat → Int) (T : Nat → Nat → Tr) : Prop where
  own : ∀ i j, D i j ≠ FF → Edge l i j (D i j) (T i j)
  all : ∀ i j c, E i j c → D i j ≠ FF ∧ D i j ≤ c

def lessD (D : Nat → Nat → Int) (i j : Nat) (c : Int) : Nat → Nat → Int := if c < D i j then (fun a b => if a = i ∧ b = j then c else D a b) else D
def lessT (D : Nat → Nat → Int) (T : Nat → Nat → Tr) (i j : Nat) (c : Int) (X : Tr) : Nat → Nat → Tr := if c < D i j then (fun a b => if a = i ∧ b = j then X else T a b) else T

theorem Cov.less {l : List AM} {E : Nat → Nat → Int → Prop} {D : Nat → Nat → Int} {T : Nat → Nat → Tr} (h : Cov l E D T) {i j : Nat} {c : Int} {X : Tr} (he : Edge l i j c X) (hc : c < FF) :
    Cov l (fun a b d => E a b d ∨ (a = i ∧ b = j ∧ d = c)) (lessD D i j c) (lessT D T i j c X) := by
  unfold lessD lessT
  by_cases hlt : c < D i j
  · simp only [hlt, if_true]
    refine ⟨fun a b => ?_, fun a b d hE => ?_⟩
    · by_cases e : a = i ∧ b = j
      · obtain ⟨rfl, rfl⟩ := e; simp only [and_self, if_true]; exact fun _ => he
      · simp only [e, if_false]; exact h.own a b
    · by_cases e : a = i ∧ b = j
      · obtain ⟨rfl, rfl⟩ := e
        simp only [and_self, if_true]
        rcases hE with hE | ⟨_, _, rfl⟩
        · have := h.all a b d hE; omega
        · omega
      · simp only [e, if_false]
        rcases hE with hE | ⟨h1, h2, _⟩
        · exact h.all a b d hE
        · exact absurd ⟨h1, h2⟩ e
  · simp only [hlt, if_false]
    refine ⟨h.own, fun a b d hE => ?_⟩
    rcases hE with hE | ⟨rfl, rfl, rfl⟩
    · exact h.all a b d hE
    · omega

/-- The edges of the first m lines. -/
def Upto (l : List AM) (m : Nat) (i j : Nat) (c : Int) : Prop := ∃ X, Edge (l.take m) i j c X

theorem Edge.take_succ {l : List AM} {m : Nat} (hm : m < l.length) {i j : Nat} {c : Int} {X : Tr} (h : Edge (l.take (m + 1)) i j c X) :
    Upto l m i j c ∨ (l[m].Q = 0 ∧ i = nd l[m].A l[m].P ∧ j = ot (nd l[m].A l[m].P) ∧ c = 2 * l[m].M) ∨
    (l[m].Q ≠ 0 ∧ ((i = nd l[m].A l[m].P ∧ j = nd l[m].B (-l[m].Q)) ∨ (i = ot (nd l[m].B (-l[m].Q)) ∧ j = ot (nd l[m].A l[m].P))) ∧ c = l[m].M) := by
  have key : ∀ (t : Nat) (a : AM), (l.take (m + 1))[t]? = some a → (l.take m)[t]? = some a ∨ a = l[m] := by
    intro t a ht
    rw [List.getElem?_take] at ht ⊢
    split at ht
    · by_cases e : t = m
      · subst e; rw [List.getElem?_eq_getElem hm] at ht; cases ht; exact .inr rfl
      · rw [if_pos (by omega)]; exact .inl ht
    · cases ht
  cases h with
  | un t a ht hq =>
    rcases key t a ht with h | h
    · exact .inl ⟨_, .un t a h hq⟩
    · subst h; exact .inr (.inl ⟨hq, rfl, rfl, rfl⟩)
  | bi t a ht hq =>
    rcases key t a ht with h | h
    · exact .inl ⟨_, .bi t a h hq⟩
    · subst h; exact .inr (.inr ⟨hq, .inl ⟨rfl, rfl⟩, rfl⟩)
  | bj t a ht hq =>
    rcases key t a ht with h | h
    · exact .inl ⟨_, .bj t a h hq⟩
    · subst h; exact .inr (.inr ⟨hq, .inr ⟨rfl, rfl⟩, rfl⟩)

theorem Cov.weaken {l : List AM} {E E' : Nat → Nat → Int → Prop} {D : Nat → Nat → Int} {T : Nat → Nat → Tr} (h : Cov l E D T) (hE : ∀ i j c, E' i j c → E i j c) : Cov l E' D T :=
  ⟨h.own, fun i j c he => h.all i j c (hE i j c he)⟩

theorem Cov.un {l : List AM} {m : Nat} {D : Nat → Nat → Int} {T : Nat → Nat → Tr} (hm : m < l.length) (h : Cov l (Upto l m) D T) (hq : l[m].Q = 0) (hc : 2 * l[m].M < FF) :
    Cov l (Upto l (m + 1)) (lessD D (nd l[m].A l[m].P) (ot (nd l[m].A l[m].P)) (2 * l[m].M)) (lessT D T (nd l[m].A l[m].P) (ot (nd l[m].A l[m].P)) (2 * l[m].M) (.sum (.line m) (.line m))) := by
  refine (h.less (.un m l[m] (List.getElem?_eq_getElem hm) hq) hc).weaken ?_
  rintro i j c ⟨X, he⟩
  rcases he.take_succ hm with h | ⟨_, h⟩ | ⟨h, _⟩
  · exact .inl h
  · exact .inr h
  · exact absurd hq h

theorem Cov.bi {l : List AM} {m : Nat} {D : Nat → Nat → Int} {T : Nat → Nat → Tr} (hm : m < l.length) (h : Cov l (Upto l m) D T) (hq : l[m].Q ≠ 0) (hc : l[m].M < FF) :
    Cov l (fun i j c => Upto l m i j c ∨ (i = nd l[m].A l[m].P ∧ j = nd l[m].B (-l[m].Q) ∧ c = l[m].M)) (lessD D (nd l[m].A l[m].P) (nd l[m].B (-l[m].Q)) l[m].M) (lessT D T (nd l[m].A l[m].P) (nd l[m].B (-l[m].Q)) l[m].M (.line m)) :=
  h.less (.bi m l[m] (List.getElem?_eq_getElem hm) hq) hc

theorem Cov.bj {l : List AM} {m : Nat} {D : Nat → Nat → Int} {T : Nat → Nat → Tr} (hm : m < l.length) (hq : l[m].Q ≠ 0) (hc : l[m].M < FF)
    (h : Cov l (fun i j c => Upto l m i j c ∨ (i = nd l[m].A l[m].P ∧ j = nd l[m].B (-l[m].Q) ∧ c = l[m].M)) D T) :
    Cov l (Upto l (m + 1)) (lessD D (ot (nd l[m].B (-l[m].Q))) (ot (nd l[m].A l[m].P)) l[m].M) (lessT D T (ot (nd l[m].B (-l[m].Q))) (ot (nd l[m].A l[m].P)) l[m].M (.line m)) := by
  refine (h.less (.bj m l[m] (List.getElem?_eq_getElem hm) hq) hc).weaken ?_
  rintro i j c ⟨X, he⟩
  rcases he.take_succ hm with h | ⟨h, _⟩ | ⟨_, ⟨h1, h2⟩ | ⟨h1, h2⟩, h3⟩
  · exact .inl (.inl h)
  · exact absurd h hq
  · exact .inl (.inr ⟨h1, h2, h3⟩)
  · exact .inr ⟨h1, h2, h3⟩

theorem Cov.stage {l : List AM} {n : Nat} {D : Nat → Nat → Int} {T : Nat → Nat → Tr} (h : Cov l (Upto l l.length) D T) : Stage FF l (2 * n) 0 D T := by
  refine ⟨fun i j _ _ _ hf => ⟨[], .edge (h.own i j hf), ⟨(fun x hx => by cases hx), List.Pairwise.nil, (fun hx => by cases hx), (fun hx => by cases hx)⟩⟩, fun i j c X he => ?_, fun m i j hm => by omega⟩
  exact h.all i j c ⟨X, by rw [List.take_length]; exact he⟩

/-- A derivation stays where only M turns. -/
theorem Mat.less {w : World} {M : Nat} {D : Nat → Nat → Int} {T : Nat → Nat → Tr} (h : Mat w M D T) {i j : Nat} (hi : i < 24) (hj : j < 24) (c : Int) (hlt : c < D i j) (X : Tr) (d : Nat) (hd : IsD w X d) :
    Mat ((w.setCell ⟨M, i * 48 + j * 2, none⟩ (.int .i64 c)).setCell ⟨M, i * 48 + j * 2 + 1, none⟩ (.pointer (some ⟨d, 0, none⟩))) M (lessD D i j c) (lessT D T i j c X) := by
  have := h.write hi hj c X d hd
  unfold lessD lessT
  simp only [hlt, if_true]
  exact this
theorem less_eq {D : Nat → Nat → Int} {T : Nat → Nat → Tr} {i j : Nat} {c : Int} {X : Tr} (hlt : ¬c < D i j) : lessD D i j c = D ∧ lessT D T i j c X = T := by simp [lessD, lessT, hlt]

/-- The bounds while they are filled with what is more than any. -/
structure Filling (w : World) (M i j : Nat) : Prop where
  big : Big w M
  most : ∀ a b, a < 24 → b < 24 → (a < i ∨ (a = i ∧ b < j)) → w.cell? ⟨M, a * 48 + b * 2, none⟩ = some (.int .i64 FF)
  why : ∀ a b, a < 24 → b < 24 → ∃ p, w.cell? ⟨M, a * 48 + b * 2 + 1, none⟩ = some (.pointer p)

theorem Filling.step {w : World} {M i j : Nat} (h : Filling w M i j) (hi : i < 24) (hj : j < 24) : Filling (w.setCell ⟨M, i * 48 + j * 2, none⟩ (.int .i64 FF)) M i (j + 1) := by
  refine ⟨h.big.set _ _, fun a b ha hb hor => ?_, fun a b ha hb => ?_⟩
  · by_cases e : a = i ∧ b = j
    · obtain ⟨rfl, rfl⟩ := e
      obtain ⟨x, hx⟩ := h.big.cell (a * 48 + b * 2) (by omega)
      exact cset_same _ hx
    · rw [cset_other (by omega)]
      exact h.most a b ha hb (by omega)
  · obtain ⟨p, hp⟩ := h.why a b ha hb
    exact ⟨p, by rw [cset_other (by omega)]; exact hp⟩
theorem Filling.next {w : World} {M i : Nat} (h : Filling w M i 24) : Filling w M (i + 1) 0 := ⟨h.big, fun a b ha hb hor => h.most a b ha hb (by omega), h.why⟩
theorem Filling.mat {w : World} {M : Nat} {T : Nat → Nat → Tr} (h : Filling w M 24 0) : Mat w M (fun _ _ => FF) T :=
  ⟨h.big, fun i j hi hj => h.most i j hi hj (.inl hi), fun i j hi hj => by obtain ⟨p, hp⟩ := h.why i j hi hj; exact ⟨p, hp, fun hf => absurd rfl hf⟩⟩

theorem retS {P : Program} {f : FuncId} {args : Array Value} {w : World} {v : Value} (h : Calls P f args w (RetS v w)) : Calls P f args w fun e w'' => e = .returned v ∧ w'' = w := h.mono fun _ _ ⟨a, b⟩ => ⟨a, b.symm⟩

def LinesPost (l : List AM) (n M : Nat) (w : World) (e : Ending) (w' : World) : Prop :=
  e = .returned (.tuple #[]) ∧ But M w w' ∧ ∃ D T, Mat w' M D T ∧ Stage FF l (2 * n) 0 D T
end Go.Proofs.Ytnjbahiaelehkaa
