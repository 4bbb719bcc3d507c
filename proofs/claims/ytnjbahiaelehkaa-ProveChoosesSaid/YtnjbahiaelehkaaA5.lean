/- The contract of walk of package prove: what becomes of the bounds, round by round. -/
import Derived.Test.YtnjbahiaelehkaaA4
import Derived.Test.YtnjbahiaelehkaaM3
namespace Go.Proofs.Ytnjbahiaelehkaa
open Go.RowKit

/-- more than any bound -/
abbrev FF : Int := 1152921504606846976

def partD (N : Nat) (D : Nat → Nat → Int) (k i j a b : Nat) : Int := if b < N ∧ (a < i ∨ (a = i ∧ b < j)) then relD FF D k a b else D a b
def partT (N : Nat) (D : Nat → Nat → Int) (T : Nat → Nat → Tr) (k i j a b : Nat) : Tr := if b < N ∧ (a < i ∨ (a = i ∧ b < j)) then relT FF D T k a b else T a b

theorem relT_left {F : Int} {D : Nat → Nat → Int} {T : Nat → Nat → Tr} {k i : Nat} : relT F D T k i k = T i k := by simp [relT, relC]
theorem relT_right {F : Int} {D : Nat → Nat → Int} {T : Nat → Nat → Tr} {k j : Nat} : relT F D T k k j = T k j := by simp [relT, relC]
theorem partD_left {N : Nat} {D : Nat → Nat → Int} {k i j a : Nat} : partD N D k i j a k = D a k := by unfold partD; split; exact relD_left; rfl
theorem partD_right {N : Nat} {D : Nat → Nat → Int} {k i j b : Nat} : partD N D k i j k b = D k b := by unfold partD; split; exact relD_right; rfl
theorem partT_left {N : Nat} {D : Nat → Nat → Int} {T : Nat → Nat → Tr} {k i j a : Nat} : partT N D T k i j a k = T a k := by unfold partT; split; exact relT_left; rfl
theorem partT_right {N : Nat} {D : Nat → Nat → Int} {T : Nat → Nat → Tr} {k i j b : Nat} : partT N D T k i j k b = T k b := by unfold partT; split; exact relT_right; rfl
theorem partD_cur {N : Nat} {D : Nat → Nat → Int} {k i j : Nat} : partD N D k i j i j = D i j := by unfold partD; rw [if_neg (by omega)]

theorem part_skip {N : Nat} {D : Nat → Nat → Int} {T : Nat → Nat → Tr} {k i j : Nat} (hc : relC FF D k i j) : partD N D k i (j + 1) = partD N D k i j ∧ partT N D T k i (j + 1) = partT N D T k i j := by
  constructor <;> funext a b
  · unfold partD
    by_cases e : a = i ∧ b = j
    · obtain ⟨rfl, rfl⟩ := e
      simp [relD, hc]
    · have : (b < N ∧ (a < i ∨ a = i ∧ b < j + 1)) ↔ (b < N ∧ (a < i ∨ a = i ∧ b < j)) := by omega
      simp only [this]
  · unfold partT
    by_cases e : a = i ∧ b = j
    · obtain ⟨rfl, rfl⟩ := e
      simp [relT, hc]
    · have : (b < N ∧ (a < i ∨ a = i ∧ b < j + 1)) ↔ (b < N ∧ (a < i ∨ a = i ∧ b < j)) := by omega
      simp only [this]
theorem part_set {N : Nat} {D : Nat → Nat → Int} {T : Nat → Nat → Tr} {k i j : Nat} (hj : j < N) (hc : ¬relC FF D k i j) :
    partD N D k i (j + 1) = (fun a b => if a = i ∧ b = j then D i k + D k j else partD N D k i j a b) ∧ partT N D T k i (j + 1) = (fun a b => if a = i ∧ b = j then .sum (T i k) (T k j) else partT N D T k i j a b) := by
  constructor <;> funext a b
  · unfold partD
    by_cases e : a = i ∧ b = j
    · obtain ⟨rfl, rfl⟩ := e
      simp [relD, hc, hj]
    · have : (b < N ∧ (a < i ∨ a = i ∧ b < j + 1)) ↔ (b < N ∧ (a < i ∨ a = i ∧ b < j)) := by omega
      simp only [this, e, if_false]
  · unfold partT
    by_cases e : a = i ∧ b = j
    · obtain ⟨rfl, rfl⟩ := e
      simp [relT, hc, hj]
    · have : (b < N ∧ (a < i ∨ a = i ∧ b < j + 1)) ↔ (b < N ∧ (a < i ∨ a = i ∧ b < j)) := by omega
      simp only [this, e, if_false]
theorem part_next {N : Nat} {D : Nat → Nat → Int} {T : Nat → Nat → Tr} {k i : Nat} : partD N D k i N = partD N D k (i + 1) 0 ∧ partT N D T k i N = partT N D T k (i + 1) 0 := by
  constructor <;> funext a b
  · unfold partD
    have : (b < N ∧ (a < i ∨ a = i ∧ b < N)) ↔ (b < N ∧ (a < i + 1 ∨ a = i + 1 ∧ b < 0)) := by omega
    simp only [this]
  · unfold partT
    have : (b < N ∧ (a < i ∨ a = i ∧ b < N)) ↔ (b < N ∧ (a < i + 1 ∨ a = i + 1 ∧ b < 0)) := by omega
    simp only [this]
theorem part_zero {N : Nat} {D : Nat → Nat → Int} {T : Nat → Nat → Tr} {k : Nat} : partD N D k 0 0 = D ∧ partT N D T k 0 0 = T := by
  constructor <;> funext a b
  · unfold partD; rw [if_neg (by omega)]
  · unfold partT; rw [if_neg (by omega)]

structure Inner (n k i j : Nat) (w : World) (M : Nat) (D : Nat → Nat → Int) (T : Nat → Nat → Tr) (wr : World) : Prop where
  but : But M w wr
  mat : Mat wr M (partD (2 * n) D k i j) (partT (2 * n) D T k i j)
  chk : ∀ a, a < 2 * n → (a < i ∨ (a = i ∧ a < j)) → a ≠ k → D a k ≠ FF → D k a ≠ FF → 0 ≤ D a k + D k a

theorem Inner.skip {n k i j : Nat} {w : World} {M : Nat} {D : Nat → Nat → Int} {T : Nat → Nat → Tr} {wr wx : World} (h : Inner n k i j w M D T wr) (hb : Below wr.heap.size wr wx) (hc : relC FF D k i j)
    (hd : i = j → i ≠ k → D i k ≠ FF → D k i ≠ FF → 0 ≤ D i k + D k i) : Inner n k i (j + 1) w M D T wx := by
  obtain ⟨e1, e2⟩ := part_skip (N := 2 * n) (T := T) hc
  refine ⟨h.but.trans (But.of_below hb), ?_, ?_⟩
  · rw [e1, e2]; exact h.mat.below hb
  · intro a ha hor hak f1 f2
    by_cases e : a = i ∧ a = j
    · obtain ⟨rfl, e⟩ := e; exact hd e hak f1 f2
    · exact h.chk a ha (by omega) hak f1 f2

theorem Inner.set {n k i j : Nat} {w : World} {M : Nat} {D : Nat → Nat → Int} {T : Nat → Nat → Tr} {wr wx : World} (h : Inner n k i j w M D T wr) (hb : Below wr.heap.size wr wx) (hc : ¬relC FF D k i j) (hi : i < 24) (hj : j < 2 * n) (hn : n ≤ 12) (d : Nat)
    (hd : IsD wx (.sum (T i k) (T k j)) d) : Inner n k i (j + 1) w M D T ((wx.setCell ⟨M, i * 48 + j * 2, none⟩ (.int .i64 (D i k + D k j))).setCell ⟨M, i * 48 + j * 2 + 1, none⟩ (.pointer (some ⟨d, 0, none⟩))) := by
  obtain ⟨e1, e2⟩ := part_set (N := 2 * n) (T := T) hj hc
  refine ⟨((h.but.trans (But.of_below hb)).set _ _).set _ _, ?_, ?_⟩
  · rw [e1, e2]; exact (h.mat.below hb).write hi (by omega) _ _ d hd
  · intro a ha hor hak f1 f2
    have hij : i ≠ j := fun e => hc (by unfold relC; omega)
    exact h.chk a ha (by omega) hak f1 f2
theorem Inner.next {n k i : Nat} {w : World} {M : Nat} {D : Nat → Nat → Int} {T : Nat → Nat → Tr} {wr : World} (h : Inner n k i (2 * n) w M D T wr) : Inner n k (i + 1) 0 w M D T wr := by
  obtain ⟨e1, e2⟩ := part_next (N := 2 * n) (D := D) (T := T) (k := k) (i := i)
  exact ⟨h.but, by rw [← e1, ← e2]; exact h.mat, fun a ha hor => h.chk a ha (by omega)⟩
theorem Inner.start {n k : Nat} {w : World} {M : Nat} {D : Nat → Nat → Int} {T : Nat → Nat → Tr} {wr : World} (hb : But M w wr) (hm : Mat wr M D T) : Inner n k 0 0 w M D T wr := by
  obtain ⟨e1, e2⟩ := part_zero (N := 2 * n) (D := D) (T := T) (k := k)
  exact ⟨hb, by rw [e1, e2]; exact hm, fun a ha hor => by omega⟩

theorem Stage.congr {F Mx : Int} {l : List AM} {n K : Nat} {D D' : Nat → Nat → Int} {T T' : Nat → Nat → Tr} (ok : ∀ a, a ∈ l → Ok n Mx a) (h : Stage F l (2 * n) K D T) (hK : K ≤ 2 * n) (e : ∀ i j, i < 2 * n → j < 2 * n → D' i j = D i j ∧ T' i j = T i j) : Stage F l (2 * n) K D' T' := by
  refine ⟨?_, ?_, ?_⟩
  · intro i j hi hj hij hf
    rw [(e i j hi hj).1] at hf ⊢
    rw [(e i j hi hj).2]
    exact h.why i j hi hj hij hf
  · intro i j c X he
    obtain ⟨hi, hj, _⟩ := he.lt ok
    rw [(e i j hi hj).1]
    exact h.edge i j c X he
  · intro m i j hm hi hj
    rw [(e i j hi hj).1, (e i m hi (by omega)).1, (e m j (by omega) hj).1]
    exact h.tri m i j hm hi hj

theorem Inner.stage {Mx : Int} {l : List AM} {n k : Nat} {w : World} {M : Nat} {D : Nat → Nat → Int} {T : Nat → Nat → Tr} {wr : World} (ok : ∀ a, a ∈ l → Ok n Mx a) (hM : 0 ≤ Mx) (hn : n ≤ 12) (hF : 100 * Mx < FF) (h : Inner n k (2 * n) 0 w M D T wr)
    (hs : Stage FF l (2 * n) k D T) (hk : k < 2 * n) : ∃ D' T', Mat wr M D' T' ∧ Stage FF l (2 * n) (k + 1) D' T' := by
  refine ⟨_, _, h.mat, ?_⟩
  refine (hs.step ok hM hn hF hk fun a ha hak f1 f2 => h.chk a ha (by omega) hak f1 f2).congr ok hk fun i j hi hj => ?_
  unfold partD partT
  rw [if_pos (by omega), if_pos (by omega)]
  exact ⟨rfl, rfl⟩

/-- A way round that is less than nothing. -/
structure Ring (l : List AM) (n : Nat) (X : Tr) : Prop where
  ex : ∃ i k c c' Xa Xb p p', X = .sum Xa Xb ∧ i < 2 * n ∧ k < 2 * n ∧ i ≠ k ∧ Why l i k c Xa p ∧ Simple (2 * n) i k p ∧ Why l k i c' Xb p' ∧ Simple (2 * n) k i p' ∧ c + c' < 0

theorem Simple.mono {K K' i j : Nat} {p : List Nat} (h : Simple K i j p) (hk : K ≤ K') : Simple K' i j p := ⟨fun x hx => Nat.lt_of_lt_of_le (h.lt x hx) hk, h.nodup, h.ni, h.nj⟩

theorem Stage.ring {l : List AM} {n k i : Nat} {D : Nat → Nat → Int} {T : Nat → Nat → Tr} (hs : Stage FF l (2 * n) k D T) (hk : k < 2 * n) (hi : i < 2 * n) (hik : i ≠ k) (f1 : D i k ≠ FF) (f2 : D k i ≠ FF) (hlt : D i k + D k i < 0) : Ring l n (.sum (T i k) (T k i)) := by
  obtain ⟨p, h1, s1⟩ := hs.why i k hi hk hik f1
  obtain ⟨p', h2, s2⟩ := hs.why k i hk hi (Ne.symm hik) f2
  exact ⟨_, _, _, _, _, _, _, _, rfl, hi, hk, hik, h1, s1.mono (Nat.le_of_lt hk), h2, s2.mono (Nat.le_of_lt hk), hlt⟩

def WalkPost (l : List AM) (n M : Nat) (w : World) (e : Ending) (w' : World) : Prop :=
  But M w w' ∧ ((∃ d X, e = .returned (.pointer (some ⟨d, 0, none⟩)) ∧ IsD w' X d ∧ Ring l n X ∧ ∃ D T, Mat w' M D T) ∨ (e = .returned (.pointer none) ∧ ∃ D T, Mat w' M D T ∧ Stage FF l (2 * n) (2 * n) D T))
end Go.Proofs.Ytnjbahiaelehkaa
