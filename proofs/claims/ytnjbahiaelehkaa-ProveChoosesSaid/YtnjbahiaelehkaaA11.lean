/- The contract of of of package prove. -/
import Derived.Test.YtnjbahiaelehkaaA10
namespace Go.Proofs.Ytnjbahiaelehkaa
open Go.RowKit

/-- What is told of a line's left side. -/
def ofM (tp : Nat → Int) (D : Nat → Nat → Int) (a : AM) : Int :=
  if a.Q = 0 then tp (nd a.A a.P)
  else if tp (nd a.A a.P) < FF ∧ tp (ot (nd a.B (-a.Q))) < FF ∧ tp (nd a.A a.P) + tp (ot (nd a.B (-a.Q))) < D (nd a.A a.P) (nd a.B (-a.Q)) then tp (nd a.A a.P) + tp (ot (nd a.B (-a.Q))) else D (nd a.A a.P) (nd a.B (-a.Q))

/-- Why that is so. -/
inductive OfT (l : List AM) (n : Nat) (a : AM) (m : Int) : Tr → Prop
  | un {c : Int} {Y : Tr} {p : List Nat} (hq : a.Q = 0) (h : Why l (nd a.A a.P) (ot (nd a.A a.P)) c Y p) (hs : Simple (2 * n) (nd a.A a.P) (ot (nd a.A a.P)) p) (e : m = c / 2) : OfT l n a m (.half Y)
  | bi {Y : Tr} {p : List Nat} (hq : a.Q ≠ 0) (h : Why l (nd a.A a.P) (nd a.B (-a.Q)) m Y p) (hs : Simple (2 * n) (nd a.A a.P) (nd a.B (-a.Q)) p) : OfT l n a m Y
  | wd {c c' : Int} {Y Z : Tr} {p p' : List Nat} (hq : a.Q ≠ 0) (h : Why l (nd a.A a.P) (ot (nd a.A a.P)) c Y p) (hs : Simple (2 * n) (nd a.A a.P) (ot (nd a.A a.P)) p)
      (h' : Why l (ot (nd a.B (-a.Q))) (nd a.B (-a.Q)) c' Z p') (hs' : Simple (2 * n) (ot (nd a.B (-a.Q))) (nd a.B (-a.Q)) p') (e : m = c / 2 + c' / 2) : OfT l n a m (.sum (.half Y) (.half Z))

def Fine (l : List AM) (n : Nat) (Mx : Int) (D : Nat → Nat → Int) (T : Nat → Nat → Tr) (tp : Nat → Int) (ty : Nat → Option Addr) (w : World) : Prop := Fin FF Mx l n D T ∧ Tight FF n D ∧ Tops n D T tp ty (2 * n) w

/-- Where the pointer of the answer leads. -/
def OfP (tp : Nat → Int) (ty : Nat → Option Addr) (D : Nat → Nat → Int) (T : Nat → Nat → Tr) (a : AM) (p : Option Addr) (w' : World) : Prop :=
  if a.Q = 0 then p = ty (nd a.A a.P)
  else if tp (nd a.A a.P) < FF ∧ tp (ot (nd a.B (-a.Q))) < FF ∧ tp (nd a.A a.P) + tp (ot (nd a.B (-a.Q))) < D (nd a.A a.P) (nd a.B (-a.Q)) then
    ∃ d, p = some ⟨d, 0, none⟩ ∧ w'.heap[d]? = some (.cells #[.int .i64 2, .int .i64 0, .pointer (ty (nd a.A a.P)), .pointer (ty (ot (nd a.B (-a.Q))))] 164 (0, 0))
  else D (nd a.A a.P) (nd a.B (-a.Q)) ≠ FF → ∃ d, p = some ⟨d, 0, none⟩ ∧ IsD w' (T (nd a.A a.P) (nd a.B (-a.Q))) d

def OfPost (tp : Nat → Int) (ty : Nat → Option Addr) (D : Nat → Nat → Int) (T : Nat → Nat → Tr) (a : AM) (w : World) (e : Ending) (w' : World) : Prop :=
  Below w.heap.size w w' ∧ ∃ p, e = .returned (.agg #[.int .i64 (ofM tp D a), .pointer p]) ∧ OfP tp ty D T a p w'

theorem ofM_far {l : List AM} {n : Nat} {Mx : Int} {D : Nat → Nat → Int} {T : Nat → Nat → Tr} {tp : Nat → Int} {ty : Nat → Option Addr} {w : World} (hM : 0 ≤ Mx) (hn : n ≤ 12) (hF : 100 * Mx < FF) (h : Fine l n Mx D T tp ty w) {a : AM} {My : Int} (o : Ok n My a) :
    ofM tp D a = (far FF D a).getD FF := by
  obtain ⟨hf, _, ht⟩ := h
  have hi := nd_lt (s := a.P) o.a0 o.an
  have hlt : ∀ i, i < 2 * n → (tp i < FF ↔ D i (ot i) ≠ FF) ∧ (D i (ot i) ≠ FF → tp i = D i (ot i) / 2) := by
    intro i hi
    rw [ht.most i hi]
    unfold topD
    by_cases hd : D i (ot i) = FF
    · simp [hd]
    · have hb := hf.st.bound hf.ok hM hn (Nat.le_refl _) hi (ot_lt hi) (Ne.symm (ot_ne i)) hd
      rw [if_neg hd]
      unfold FF at hF hd ⊢
      exact ⟨⟨fun _ => hd, fun _ => by omega⟩, fun _ => rfl⟩
  unfold ofM far
  by_cases hq : a.Q = 0
  · simp only [hq, if_true]
    rw [ht.most _ hi]
    unfold topD
    split
    · rfl
    · rfl
  · simp only [hq, if_false]
    obtain ⟨b0, b1, _⟩ := o.b1 hq
    have hj := nd_lt (s := -a.Q) b0 b1
    obtain ⟨i1, i2⟩ := hlt _ hi
    obtain ⟨j1, j2⟩ := hlt _ (ot_lt hj)
    rw [ot_ot] at j1 j2
    unfold bin
    by_cases h1 : D (nd a.A a.P) (ot (nd a.A a.P)) = FF ∨ D (ot (nd a.B (-a.Q))) (nd a.B (-a.Q)) = FF
    · rw [if_pos h1, if_neg (fun hh => by rcases h1 with h1 | h1; exact (i1.1 hh.1) h1; exact (j1.1 hh.2.1) h1)]
      split
      · rename_i h2; rw [h2]; rfl
      · rfl
    · have h1' := not_or.1 h1
      rw [if_neg h1, ← i2 h1'.1, ← j2 h1'.2]
      have l1 := i1.2 h1'.1
      have l2 := j1.2 h1'.2
      have bi := hf.st.bound hf.ok hM hn (Nat.le_refl _) hi (ot_lt hi) (Ne.symm (ot_ne _)) h1'.1
      have bj := hf.st.bound hf.ok hM hn (Nat.le_refl _) (ot_lt hj) hj (ot_ne _) h1'.2
      have e1 := i2 h1'.1
      have e2 := j2 h1'.2
      by_cases h2 : tp (nd a.A a.P) + tp (ot (nd a.B (-a.Q))) < D (nd a.A a.P) (nd a.B (-a.Q))
      · rw [if_pos ⟨l1, l2, h2⟩, if_pos (.inr h2)]; rfl
      · rw [if_neg (fun hh => h2 hh.2.2), if_neg]
        · rfl
        · rintro (h3 | h3)
          · rw [h3] at h2; unfold FF at hF h2; omega
          · exact h2 h3

theorem ofP_ofT {l : List AM} {n : Nat} {Mx : Int} {D : Nat → Nat → Int} {T : Nat → Nat → Tr} {tp : Nat → Int} {ty : Nat → Option Addr} {w w' : World} (hn : n ≤ 12) (h : Fine l n Mx D T tp ty w) {a : AM} {My : Int} (o : Ok n My a) (hb : Below w.heap.size w w')
    {p : Option Addr} (hp : OfP tp ty D T a p w') (hne : ofM tp D a ≠ FF) : ∃ d X, p = some ⟨d, 0, none⟩ ∧ IsD w' X d ∧ OfT l n a (ofM tp D a) X := by
  obtain ⟨hf, _, ht⟩ := h
  have hi := nd_lt (s := a.P) o.a0 o.an
  have hfin : ∀ i, i < 2 * n → tp i < FF → D i (ot i) ≠ FF ∧ tp i = D i (ot i) / 2 := by
    intro i hi h
    rw [ht.most i hi] at h ⊢
    unfold topD at h ⊢
    by_cases hd : D i (ot i) = FF
    · rw [if_pos hd] at h; omega
    · rw [if_neg hd]; exact ⟨hd, rfl⟩
  unfold OfP at hp
  unfold ofM at hne ⊢
  by_cases hq : a.Q = 0
  · simp only [hq, if_true] at hp hne ⊢
    have hle : tp (nd a.A a.P) < FF := by have := (ht.bd _ (by omega : nd a.A a.P < 24)).2; omega
    obtain ⟨h1, h2⟩ := hfin _ hi hle
    obtain ⟨d, e, hd⟩ := ht.why _ hi h1
    obtain ⟨q, hw, hs⟩ := hf.st.why _ _ hi (ot_lt hi) (Ne.symm (ot_ne _)) h1
    exact ⟨d, _, hp.trans e, hd.below hb, .un hq hw hs h2⟩
  · simp only [hq, if_false] at hp hne ⊢
    obtain ⟨b0, b1, b2⟩ := o.b1 hq
    have hj := nd_lt (s := -a.Q) b0 b1
    have hij : nd a.A a.P ≠ nd a.B (-a.Q) := by
      have := o.a0
      unfold nd; intro e; split at e <;> split at e <;> omega
    split at hp
    · rename_i hc
      rw [if_pos hc]
      obtain ⟨h1, h2⟩ := hfin _ hi hc.1
      obtain ⟨h3, h4⟩ := hfin _ (ot_lt hj) hc.2.1
      obtain ⟨d1, e1, hd1⟩ := ht.why _ hi h1
      obtain ⟨d2, e2, hd2⟩ := ht.why _ (ot_lt hj) h3
      obtain ⟨d, e, hd⟩ := hp
      rw [e1, e2] at hd
      obtain ⟨q1, hw1, hs1⟩ := hf.st.why _ _ hi (ot_lt hi) (Ne.symm (ot_ne _)) h1
      obtain ⟨q2, hw2, hs2⟩ := hf.st.why _ _ (ot_lt hj) (ot_lt (ot_lt hj)) (by rw [ot_ot]; exact ot_ne _) h3
      rw [ot_ot] at hw2 hs2 h4 hd2
      exact ⟨d, .sum (.half (T (nd a.A a.P) (ot (nd a.A a.P)))) (.half (T (ot (nd a.B (-a.Q))) (nd a.B (-a.Q)))), e, ⟨d1, d2, hd, hd1.below hb, hd2.below hb⟩, .wd hq hw1 hs1 hw2 hs2 (by rw [h2, h4])⟩
    · rename_i hc
      rw [if_neg hc] at hne ⊢
      obtain ⟨d, e, hd⟩ := hp hne
      obtain ⟨q, hw, hs⟩ := hf.st.why _ _ hi hj hij hne
      exact ⟨d, _, e, hd, .bi hq hw hs⟩
end Go.Proofs.Ytnjbahiaelehkaa
