/- The examples of the chapter: what the meaning of the lines says of them. -/
import Derived.Test.YtnjbahiaelehkaaA23
namespace Go.Proofs.Ytnjbahiaelehkaa
open Go.RowKit

def threeL : List AM := [⟨0, 1, 1, 1, 5⟩, ⟨0, 1, 1, -1, 2⟩, ⟨1, 1, 0, -1, -1⟩, ⟨2, 1, 0, -1, 0⟩, ⟨2, -1, 0, 0, -2⟩]
def fourL : List AM := threeL ++ [⟨0, 1, 1, 1, 3⟩]
def fiveL : List AM := threeL ++ [⟨0, -1, 1, -1, -6⟩]
def oddL : List AM := [⟨0, 1, 1, -1, 0⟩, ⟨1, 1, 0, -1, 0⟩, ⟨0, 1, 1, 1, 1⟩, ⟨0, -1, 1, -1, -1⟩]
def pt (a b c : Int) (k : Nat) : Int := if k = 0 then a else if k = 1 then b else if k = 2 then c else 0

theorem sat_cons {a : AM} {l : List AM} {x : Nat → Int} : Sat (a :: l) x ↔ lhs x a ≤ a.M ∧ Sat l x := by
  unfold Sat
  simp
theorem sat_nil {x : Nat → Int} : Sat [] x ↔ True := by
  unfold Sat
  simp
theorem satThree (x : Nat → Int) : Sat threeL x ↔ x 0 + x 1 ≤ 5 ∧ x 0 - x 1 ≤ 2 ∧ x 1 - x 0 ≤ -1 ∧ x 2 - x 0 ≤ 0 ∧ -(x 2) ≤ -2 := by
  simp only [threeL, sat_cons, sat_nil, lhs, and_true]
  simp
  omega
theorem possThree : possB threeL = true := possB_iff.2 ⟨pt 2 1 2, by rw [satThree]; decide⟩
theorem maxThree (a : AM) (m : Int) (x : Nat → Int) (h1 : Sat threeL x) (h2 : lhs x a = m) (h3 : ∀ x, Sat threeL x → lhs x a ≤ m) : maxO threeL a = some m := maxO_some.2 ⟨⟨x, h1, h2⟩, h3⟩
theorem max00 : maxO threeL ⟨0, -1, 0, 0, 0⟩ = some (-2) := maxThree _ _ (pt 2 1 2) (by rw [satThree]; decide) (by decide) (fun x hx => by rw [satThree] at hx; simp [lhs]; omega)
theorem max01 : maxO threeL ⟨0, 1, 0, 0, 0⟩ = some 3 := maxThree _ _ (pt 3 2 2) (by rw [satThree]; decide) (by decide) (fun x hx => by rw [satThree] at hx; simp [lhs]; omega)
theorem max10 : maxO threeL ⟨1, -1, 0, 0, 0⟩ = some 0 := maxThree _ _ (pt 2 0 2) (by rw [satThree]; decide) (by decide) (fun x hx => by rw [satThree] at hx; simp [lhs]; omega)
theorem max11 : maxO threeL ⟨1, 1, 0, 0, 0⟩ = some 2 := maxThree _ _ (pt 3 2 2) (by rw [satThree]; decide) (by decide) (fun x hx => by rw [satThree] at hx; simp [lhs]; omega)
theorem max20 : maxO threeL ⟨2, -1, 0, 0, 0⟩ = some (-2) := maxThree _ _ (pt 2 1 2) (by rw [satThree]; decide) (by decide) (fun x hx => by rw [satThree] at hx; simp [lhs]; omega)
theorem max21 : maxO threeL ⟨2, 1, 0, 0, 0⟩ = some 3 := maxThree _ _ (pt 3 2 3) (by rw [satThree]; decide) (by decide) (fun x hx => by rw [satThree] at hx; simp [lhs]; omega)
theorem maxS : maxO threeL ⟨0, 1, 1, 1, 0⟩ = some 5 := maxThree _ _ (pt 3 2 2) (by rw [satThree]; decide) (by decide) (fun x hx => by rw [satThree] at hx; simp [lhs]; omega)
theorem maxT : maxO threeL ⟨1, 1, 2, 1, 0⟩ = some 5 := maxThree _ _ (pt 3 2 3) (by rw [satThree]; decide) (by decide) (fun x hx => by rw [satThree] at hx; simp [lhs]; omega)
theorem entA : entB threeL ⟨2, 1, 0, 0, 3⟩ = true := entB_iff.2 fun x hx => by rw [satThree] at hx; simp [lhs]; omega
theorem entN : entB threeL ⟨1, 1, 0, 0, 1⟩ = false := by
  cases h : entB threeL ⟨1, 1, 0, 0, 1⟩ with
  | false => rfl
  | true =>
    have h' := entB_iff.1 h (pt 3 2 2) (by rw [satThree]; decide)
    exact absurd h' (by decide)
theorem satFour (x : Nat → Int) : Sat fourL x ↔ Sat threeL x ∧ x 0 + x 1 ≤ 3 := by
  unfold fourL Sat
  simp [lhs]
  constructor
  · intro h
    exact ⟨fun a ha => h a (.inl ha), by simpa using h ⟨0, 1, 1, 1, 3⟩ (.inr rfl)⟩
  · rintro ⟨h1, h2⟩ a (ha | rfl)
    · exact h1 a ha
    · simpa using h2
theorem possFour : possB fourL = true := possB_iff.2 ⟨pt 2 1 2, by rw [satFour, satThree]; decide⟩
theorem max4a : maxO fourL ⟨0, -1, 0, 0, 0⟩ = some (-2) := maxO_some.2 ⟨⟨pt 2 1 2, by rw [satFour, satThree]; decide, by decide⟩, fun x hx => by rw [satFour, satThree] at hx; simp [lhs]; omega⟩
theorem max4b : maxO fourL ⟨0, 1, 0, 0, 0⟩ = some 2 := maxO_some.2 ⟨⟨pt 2 1 2, by rw [satFour, satThree]; decide, by decide⟩, fun x hx => by rw [satFour, satThree] at hx; simp [lhs]; omega⟩

theorem noposs_of {l : List AM} (h : ∀ x, ¬Sat l x) : possB l = false := by
  cases e : possB l with
  | false => rfl
  | true =>
    obtain ⟨x, hx⟩ := possB_iff.1 e
    exact absurd hx (h x)
theorem possOdd : possB oddL = false := noposs_of fun x hx => by
  simp only [oddL, sat_cons, sat_nil, lhs, and_true] at hx
  simp at hx
  omega
theorem possFive : possB fiveL = false := noposs_of fun x hx => by
  simp only [fiveL, threeL, List.cons_append, List.nil_append, sat_cons, sat_nil, lhs, and_true] at hx
  simp at hx
  omega
theorem keepFive : keep canS fiveL = [0, 5] := by
  have p0 : possB [⟨0, 1, 1, -1, 2⟩, ⟨1, 1, 0, -1, -1⟩, ⟨2, 1, 0, -1, 0⟩, ⟨2, -1, 0, 0, -2⟩, ⟨0, -1, 1, -1, -6⟩] = true := possB_iff.2 ⟨pt 4 3 2, by simp only [sat_cons, sat_nil, lhs, and_true]; decide⟩
  have p1 : possB [⟨0, 1, 1, 1, 5⟩, ⟨1, 1, 0, -1, -1⟩, ⟨2, 1, 0, -1, 0⟩, ⟨2, -1, 0, 0, -2⟩, ⟨0, -1, 1, -1, -6⟩] = false := noposs_of fun x hx => by simp only [sat_cons, sat_nil, lhs, and_true] at hx; simp at hx; omega
  have p2 : possB [⟨0, 1, 1, 1, 5⟩, ⟨2, 1, 0, -1, 0⟩, ⟨2, -1, 0, 0, -2⟩, ⟨0, -1, 1, -1, -6⟩] = false := noposs_of fun x hx => by simp only [sat_cons, sat_nil, lhs, and_true] at hx; simp at hx; omega
  have p3 : possB [⟨0, 1, 1, 1, 5⟩, ⟨2, -1, 0, 0, -2⟩, ⟨0, -1, 1, -1, -6⟩] = false := noposs_of fun x hx => by simp only [sat_cons, sat_nil, lhs, and_true] at hx; simp at hx; omega
  have p4 : possB [⟨0, 1, 1, 1, 5⟩, ⟨0, -1, 1, -1, -6⟩] = false := noposs_of fun x hx => by simp only [sat_cons, sat_nil, lhs, and_true] at hx; simp at hx; omega
  have p5 : possB [⟨0, 1, 1, 1, 5⟩] = true := possB_iff.2 ⟨pt 0 0 0, by simp only [sat_cons, sat_nil, lhs, and_true]; decide⟩
  have s0 : keepStep canS fiveL [0, 1, 2, 3, 4, 5] 0 = [0, 1, 2, 3, 4, 5] := by
    have e : pick fiveL (drop [0, 1, 2, 3, 4, 5] ((0 : Nat) : Int)) = [⟨0, 1, 1, -1, 2⟩, ⟨1, 1, 0, -1, -1⟩, ⟨2, 1, 0, -1, 0⟩, ⟨2, -1, 0, 0, -2⟩, ⟨0, -1, 1, -1, -6⟩] := by decide
    unfold keepStep canS
    rw [e, p0]
    rfl
  have s1 : keepStep canS fiveL [0, 1, 2, 3, 4, 5] 1 = [0, 2, 3, 4, 5] := by
    have e : pick fiveL (drop [0, 1, 2, 3, 4, 5] ((1 : Nat) : Int)) = [⟨0, 1, 1, 1, 5⟩, ⟨1, 1, 0, -1, -1⟩, ⟨2, 1, 0, -1, 0⟩, ⟨2, -1, 0, 0, -2⟩, ⟨0, -1, 1, -1, -6⟩] := by decide
    unfold keepStep canS
    rw [e, p1]
    decide
  have s2 : keepStep canS fiveL [0, 2, 3, 4, 5] 2 = [0, 3, 4, 5] := by
    have e : pick fiveL (drop [0, 2, 3, 4, 5] ((2 : Nat) : Int)) = [⟨0, 1, 1, 1, 5⟩, ⟨2, 1, 0, -1, 0⟩, ⟨2, -1, 0, 0, -2⟩, ⟨0, -1, 1, -1, -6⟩] := by decide
    unfold keepStep canS
    rw [e, p2]
    decide
  have s3 : keepStep canS fiveL [0, 3, 4, 5] 3 = [0, 4, 5] := by
    have e : pick fiveL (drop [0, 3, 4, 5] ((3 : Nat) : Int)) = [⟨0, 1, 1, 1, 5⟩, ⟨2, -1, 0, 0, -2⟩, ⟨0, -1, 1, -1, -6⟩] := by decide
    unfold keepStep canS
    rw [e, p3]
    decide
  have s4 : keepStep canS fiveL [0, 4, 5] 4 = [0, 5] := by
    have e : pick fiveL (drop [0, 4, 5] ((4 : Nat) : Int)) = [⟨0, 1, 1, 1, 5⟩, ⟨0, -1, 1, -1, -6⟩] := by decide
    unfold keepStep canS
    rw [e, p4]
    decide
  have s5 : keepStep canS fiveL [0, 5] 5 = [0, 5] := by
    have e : pick fiveL (drop [0, 5] ((5 : Nat) : Int)) = [⟨0, 1, 1, 1, 5⟩] := by decide
    unfold keepStep canS
    rw [e, p5]
    rfl
  have h0 : upto fiveL.length = [0, 1, 2, 3, 4, 5] := by decide
  show (List.range 6).foldl (keepStep canS fiveL) (upto fiveL.length) = [0, 5]
  rw [h0, show List.range 6 = [0, 1, 2, 3, 4, 5] from rfl]
  simp only [List.foldl_cons, List.foldl_nil, s0, s1, s2, s3, s4, s5]

theorem check3 : checkN 3 threeL = 0 := by decide
theorem check4 : checkN 3 fourL = 0 := by decide
theorem check5 : checkN 3 fiveL = 0 := by decide
theorem check2 : checkN 2 oddL = 0 := by decide
theorem ex_core : coreL 3 fiveL = [0, 5] ∧ coreB 3 fiveL = true := by
  unfold coreL coreB
  rw [if_pos check5, if_pos check5, possFive, keepFive]
  exact ⟨rfl, rfl⟩
theorem ex_poss : possV 3 threeL = true ∧ possV 2 oddL = false ∧ refuV 2 oddL = true := by
  unfold possV refuV
  rw [if_pos check3, if_pos check2, if_pos check2, possThree, possOdd]
  exact ⟨rfl, rfl, rfl⟩
theorem ex_span0 : spanLo 3 threeL 0 = 2 ∧ spanHi 3 threeL 0 = 3 ∧ spanE 3 threeL 0 = 0 := by
  unfold spanLo spanHi spanE spanM
  rw [if_pos ⟨by decide, possThree⟩, if_pos ⟨by decide, possThree⟩, if_pos (by decide), if_pos possThree, max00, max01]
  exact ⟨rfl, rfl, rfl⟩
theorem ex_span1 : spanLo 3 threeL 1 = 0 ∧ spanHi 3 threeL 1 = 2 ∧ spanE 3 threeL 1 = 0 := by
  unfold spanLo spanHi spanE spanM
  rw [if_pos ⟨by decide, possThree⟩, if_pos ⟨by decide, possThree⟩, if_pos (by decide), if_pos possThree, max10, max11]
  exact ⟨rfl, rfl, rfl⟩
theorem ex_span2 : spanLo 3 threeL 2 = 2 ∧ spanHi 3 threeL 2 = 3 ∧ spanE 3 threeL 2 = 0 := by
  unfold spanLo spanHi spanE spanM
  rw [if_pos ⟨by decide, possThree⟩, if_pos ⟨by decide, possThree⟩, if_pos (by decide), if_pos possThree, max20, max21]
  exact ⟨rfl, rfl, rfl⟩
theorem ex_span4 : spanLo 3 fourL 0 = 2 ∧ spanHi 3 fourL 0 = 2 ∧ spanE 3 fourL 0 = 0 := by
  unfold spanLo spanHi spanE spanM
  rw [if_pos ⟨by decide, possFour⟩, if_pos ⟨by decide, possFour⟩, if_pos (by decide), if_pos possFour, max4a, max4b]
  exact ⟨rfl, rfl, rfl⟩
theorem ex_most : mostV 3 threeL ⟨0, 1, 1, 1, 0⟩ = 5 ∧ mostC 3 threeL ⟨0, 1, 1, 1, 0⟩ = 0 ∧ mostV 3 threeL ⟨1, 1, 2, 1, 0⟩ = 5 ∧ mostC 3 threeL ⟨1, 1, 2, 1, 0⟩ = 0 := by
  unfold mostV mostC mostN mostE
  rw [if_pos (show lineN 3 threeL ⟨0, 1, 1, 1, 0⟩ = 0 by decide), if_pos (show lineN 3 threeL ⟨0, 1, 1, 1, 0⟩ = 0 by decide), if_pos (show lineN 3 threeL ⟨1, 1, 2, 1, 0⟩ = 0 by decide), if_pos (show lineN 3 threeL ⟨1, 1, 2, 1, 0⟩ = 0 by decide), possThree, maxS, maxT]
  exact ⟨rfl, rfl, rfl, rfl⟩
theorem ex_ent : entV 3 threeL ⟨2, 1, 0, 0, 3⟩ = true ∧ lineN 3 threeL ⟨2, 1, 0, 0, 3⟩ = 0 ∧ entV 3 threeL ⟨1, 1, 0, 0, 1⟩ = false ∧ lineN 3 threeL ⟨1, 1, 0, 0, 1⟩ = 0 := by
  unfold entV
  rw [if_pos (by decide), if_pos (by decide), entA, entN]
  exact ⟨rfl, by decide, rfl, by decide⟩
end Go.Proofs.Ytnjbahiaelehkaa
