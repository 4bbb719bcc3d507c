/- A unit whose slots have other names: plain laws. -/
import Derived.Test.YtgalekifgnecjaaGreatV1
namespace Go.Proofs.YtgalekifgnecjaaGreat
open Go.RowKit
/-- Other names for the slots that are no arguments. -/
structure RenF (f g : Int → Int) (a n : Int) : Prop where
  fg : ∀ x, f (g x) = x
  gf : ∀ x, g (f x) = x
  lo : ∀ x, x < a → f x = x
  hi : ∀ x, n ≤ x → f x = x
  mid : ∀ x, a ≤ x → x < n → a ≤ f x ∧ f x < n
  a0 : 0 ≤ a
def turnI (a n by' : Int) (s : Int) : Int := if s < a ∨ n ≤ s then s else a + (s - a + by') % (n - a)
theorem turn_in {a n : Int} (h : a < n) (b x : Int) (h1 : a ≤ x) (h2 : x < n) : a ≤ turnI a n b x ∧ turnI a n b x < n := by
  unfold turnI
  rw [if_neg (by omega)]
  have e1 := Int.emod_nonneg (x - a + b) (show n - a ≠ 0 by omega)
  have e2 := Int.emod_lt_of_pos (x - a + b) (show 0 < n - a by omega)
  omega
theorem turn_back {a n : Int} (h : a < n) (b x : Int) : turnI a n (-b) (turnI a n b x) = x := by
  by_cases hx : x < a ∨ n ≤ x
  · have e : turnI a n b x = x := if_pos hx
    rw [e]
    exact if_pos hx
  · obtain ⟨h1, h2⟩ := turn_in h b x (by omega) (by omega)
    have e : turnI a n (-b) (turnI a n b x) = a + (turnI a n b x - a + -b) % (n - a) := if_neg (by omega)
    rw [e]
    have e2 : turnI a n b x = a + (x - a + b) % (n - a) := if_neg hx
    rw [e2, show a + (x - a + b) % (n - a) - a + -b = (x - a + b) % (n - a) + -b by omega, Int.emod_add_emod, show x - a + b + -b = x - a by omega, Int.emod_eq_of_lt (by omega) (by omega)]
    omega
theorem turn_ren {a n : Int} (h0 : 0 ≤ a) (h : a < n) (b : Int) : RenF (turnI a n b) (turnI a n (-b)) a n :=
  ⟨fun x => by have := turn_back h (-b) x; rwa [Int.neg_neg] at this, fun x => turn_back h b x, fun x hx => if_pos (.inl hx), fun x hx => if_pos (.inr hx), fun x h1 h2 => turn_in h b x h1 h2, h0⟩
section
variable {f g : Int → Int} {a n : Int}
theorem RenF.inj (h : RenF f g a n) {x y : Int} (e : f x = f y) : x = y := by rw [← h.gf x, e, h.gf]
theorem RenF.neg (h : RenF f g a n) {x : Int} (hx : x < 0) : f x = x := h.lo x (by have := h.a0; omega)
theorem RenF.pos (h : RenF f g a n) {x : Int} (hx : 0 ≤ x) : 0 ≤ f x := by
  have := h.a0
  by_cases h1 : x < a
  · rw [h.lo x h1]; exact hx
  · by_cases h2 : x < n
    · have := h.mid x (by omega) h2; omega
    · rw [h.hi x (by omega)]; exact hx
theorem RenF.one (h : RenF f g a n) (x : Int) : (f x = -1) = (x = -1) := by
  apply propext
  constructor
  · intro e
    by_cases hx : x < 0
    · rwa [h.neg hx] at e
    · have := h.pos (x := x) (by omega); omega
  · rintro rfl; exact h.neg (by omega)
theorem RenF.below (h : RenF f g a n) (x : Int) : f x < n ↔ x < n := by
  by_cases h1 : x < a
  · rw [h.lo x h1]
  · by_cases h2 : x < n
    · have := h.mid x (by omega) h2; omega
    · rw [h.hi x (by omega)]
theorem RenF.nonneg (h : RenF f g a n) (x : Int) : 0 ≤ f x ↔ 0 ≤ x := by
  constructor
  · intro e
    by_cases hx : x < 0
    · rw [h.neg hx] at e; omega
    · omega
  · exact h.pos
def renI (f : Int → Int) (x : InsN) : InsN := replI x f f
theorem ren_op (x : InsN) : (renI f x).op = x.op := by
  unfold renI replI
  split
  · rfl
  · split
    · rfl
    · split <;> rfl
theorem op_cases {op : Int} (h : 0 ≤ op ∧ op ≤ 32) : op = 0 ∨ op = 1 ∨ op = 2 ∨ op = 3 ∨ op = 4 ∨ op = 5 ∨ op = 6 ∨ op = 7 ∨ op = 8 ∨ op = 9 ∨ op = 10 ∨ op = 11 ∨ op = 12 ∨ op = 13 ∨ op = 14 ∨ op = 15 ∨ op = 16 ∨ op = 17 ∨ op = 18 ∨ op = 19 ∨ op = 20 ∨ op = 21 ∨ op = 22 ∨ op = 23 ∨ op = 24 ∨ op = 25 ∨ op = 26 ∨ op = 27 ∨ op = 28 ∨ op = 29 ∨ op = 30 ∨ op = 31 ∨ op = 32 := by omega
/-- What an instruction with other names reads, writes and leads to. -/
structure RenX (f : Int → Int) (x : InsN) : Prop where
  rd : readsL (renI f x) = (readsL x).map f
  wr : writesI (renI f x) = f (writesI x)
  pl : placesL (renI f x) = placesL x
  po : placeO (renI f x) = placeO x
  ag : argB x = true → (renI f x).a = x.a
set_option maxHeartbeats 4000000 in
theorem ren_facts (h : RenF f g a n) (x : InsN) (hx : 0 ≤ x.op ∧ x.op ≤ 32) : RenX f x := by
  obtain ⟨op, xa, xb, xc⟩ := x
  have hs : ∀ y, setR y f = f y := fun y => by unfold setR; split; rfl; exact (h.neg (by omega)).symm
  have hi : ∀ y, (if 0 ≤ y then f y else y) = f y := fun y => by split; rfl; exact (h.neg (by omega)).symm
  have h1 : f (-1) = -1 := h.neg (by omega)
  have hrp : ∀ y, List.map f (if y = -1 then [] else [y]) = if y = -1 then [] else [f y] := fun y => by split <;> rfl
  have hne := h.one
  clear h
  simp only at hx
  rcases op_cases hx with rfl | rfl | rfl | rfl | rfl | rfl | rfl | rfl | rfl | rfl | rfl | rfl | rfl | rfl | rfl | rfl | rfl | rfl | rfl | rfl | rfl | rfl | rfl | rfl | rfl | rfl | rfl | rfl | rfl | rfl | rfl | rfl | rfl
  all_goals (clear hx; constructor <;> simp [renI, replI, readsL, readPart, writesI, placesL, placeO, partN, hasN, argB, formL, opOk, formT, form0, rdA, rdB, rdBC, hs, hi, h1, hne, hrp, List.range_succ])
end
end Go.Proofs.YtgalekifgnecjaaGreat
