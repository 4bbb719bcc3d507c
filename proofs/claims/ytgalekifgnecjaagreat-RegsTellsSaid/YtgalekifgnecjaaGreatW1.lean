/- The homes that slots are given: plain laws. What the writer writes, group by group: plain laws. What is written for a group is what the check wants: plain laws. What is written stands for the unit: plain laws. The unit that is written stands for the old one: plain laws. How much is written, and how many slots there are: plain laws. -/
import Derived.Test.YtgalekifgnecjaaGreatQ2
import Derived.Test.YtgalekifgnecjaaGreatT18
import Derived.Test.YtgalekifgnecjaaGreatT4
import Derived.Test.YtgalekifgnecjaaGreatN6
namespace Go.Proofs.YtgalekifgnecjaaGreat
open Go.RowKit

open Go.RowKit Go.Shelf
def PUsed (u : UntN) (l : List (Int × Int)) : Prop := ∀ p ∈ l, p.1 ∈ usedL u ∧ p.2 ∈ usedL u
theorem PUsed.note {u : UntN} {l : List (Int × Int)} (h : PUsed u l) {s t : Int} (hs : s ∈ usedL u) (ht : t ∈ usedL u) : PUsed u (noteP l s t) := by
  intro p hp
  rcases mem_noteP.1 hp with hp | ⟨_, rfl⟩
  · exact h p hp
  · unfold pairP
    rcases (show s ≤ t ∨ t ≤ s by omega) with hc | hc
    · exact ⟨by show min s t ∈ _; rw [show min s t = s by omega]; exact hs, by show max s t ∈ _; rw [show max s t = t by omega]; exact ht⟩
    · exact ⟨by show min s t ∈ _; rw [show min s t = t by omega]; exact ht, by show max s t ∈ _; rw [show max s t = s by omega]; exact hs⟩
theorem PUsed.fold {u : UntN} {s : Int} (hs : s ∈ usedL u) : ∀ {bs : List Int} {l : List (Int × Int)}, PUsed u l → (∀ b ∈ bs, b ∈ usedL u) → PUsed u (bs.foldl (fun l b => noteP l s b) l)
  | [], _, h, _ => h
  | b :: bs, l, h, hb => by
    rw [List.foldl_cons]
    exact PUsed.fold hs (h.note hs (hb b (by simp))) (fun c hc => hb c (by simp [hc]))
/-- What home a slot can have. -/
def HouT (u : UntN) (keep cells : Int) (t : Nat) (x : Int) : Prop :=
  ((t : Int) ∉ usedL u ∧ x = -1) ∨ ((t : Int) ∈ usedL u ∧ ((0 ≤ x ∧ x < keep) ∨ ((t : Int) < u.args ∧ x = -2 - (t : Int)) ∨ (u.args ≤ (t : Int) ∧ ∃ c, u.args ≤ c ∧ c < cells ∧ x = -2 - c)))
structure HouI (u : UntN) (keep : Int) (n : Nat) (h : HouN) : Prop where
  len : h.out.length = n
  had : ∀ x, x ∈ h.had ↔ ∃ t, t < n ∧ x = ((t : Int), h.out.getD t 0) ∧ 0 ≤ h.out.getD t 0
  cel : u.args ≤ h.cells
  fin : h.cells ≤ max u.args n
  one : ∀ t, t < n → HouT u keep h.cells t (h.out.getD t 0)
  ne : ∀ t t', t < t' → t' < n → clB (clashL u) t' t = true → 0 ≤ h.out.getD t 0 → h.out.getD t 0 ≠ h.out.getD t' 0
  uq : ∀ t t', t < t' → t' < n → h.out.getD t 0 ≤ -2 → h.out.getD t 0 ≠ h.out.getD t' 0
theorem getD_snoc_lt {l : List Int} {x : Int} {t : Nat} (h : t < l.length) : (l ++ [x]).getD t 0 = l.getD t 0 := by
  simp only [List.getD_eq_getElem?_getD, List.getElem?_append_left h]
theorem getD_snoc_eq {l : List Int} {x : Int} {t : Nat} (h : l.length = t) : (l ++ [x]).getD t 0 = x := by
  subst h
  simp
theorem HouT.mono {u : UntN} {keep c c' : Int} (h : c ≤ c') {t : Nat} {x : Int} (hx : HouT u keep c t x) : HouT u keep c' t x := by
  rcases hx with hx | ⟨h1, h2 | h2 | ⟨h3, d, h4, h5, h6⟩⟩
  · exact .inl hx
  · exact .inr ⟨h1, .inl h2⟩
  · exact .inr ⟨h1, .inr (.inl h2)⟩
  · exact .inr ⟨h1, .inr (.inr ⟨h3, d, h4, by omega, h6⟩)⟩
theorem HouT.ge {u : UntN} {keep c : Int} {t : Nat} {x : Int} (hx : HouT u keep c t x) (hn : x ≤ -2) : (t : Int) ∈ usedL u ∧ (((t : Int) < u.args ∧ x = -2 - (t : Int)) ∨ (u.args ≤ (t : Int) ∧ ∃ d, u.args ≤ d ∧ d < c ∧ x = -2 - d)) := by
  rcases hx with ⟨_, hx⟩ | ⟨h1, h2 | h2⟩
  · omega
  · omega
  · exact ⟨h1, h2⟩
/-- One slot more. -/
theorem HouI.snoc {u : UntN} {keep : Int} {n : Nat} {h : HouN} (hi : HouI u keep n h) {x c' : Int} {had' : List (Int × Int)}
    (hh : ∀ y, y ∈ had' ↔ y ∈ h.had ∨ (y = ((n : Int), x) ∧ 0 ≤ x)) (hc : h.cells ≤ c') (hf : c' ≤ max u.args ((n : Int) + 1)) (ho : HouT u keep c' n x)
    (hne : ∀ t, t < n → clB (clashL u) n t = true → 0 ≤ h.out.getD t 0 → h.out.getD t 0 ≠ x) (huq : ∀ t, t < n → h.out.getD t 0 ≤ -2 → h.out.getD t 0 ≠ x) : HouI u keep (n + 1) ⟨had', h.out ++ [x], c'⟩ := by
  have hl := hi.len
  have e1 : ∀ t, t < n → (h.out ++ [x]).getD t 0 = h.out.getD t 0 := fun t ht => getD_snoc_lt (by omega)
  have e2 : (h.out ++ [x]).getD n 0 = x := getD_snoc_eq hl
  refine ⟨by rw [List.length_append, hl]; rfl, fun y => ?_, by have := hi.cel; show u.args ≤ c'; omega, by show c' ≤ _; omega, fun t ht => ?_, fun t t' h1 h2 => ?_, fun t t' h1 h2 => ?_⟩
  · show y ∈ had' ↔ _
    rw [hh, hi.had]
    constructor
    · rintro (⟨t, ht, e, h0⟩ | ⟨e, h0⟩)
      · exact ⟨t, by omega, by rw [e1 t ht]; exact e, by rw [e1 t ht]; exact h0⟩
      · exact ⟨n, by omega, by rw [e2]; exact e, by rw [e2]; exact h0⟩
    · rintro ⟨t, ht, e, h0⟩
      by_cases htn : t < n
      · rw [e1 t htn] at e h0
        exact .inl ⟨t, htn, e, h0⟩
      · obtain rfl : t = n := by omega
        rw [e2] at e h0
        exact .inr ⟨e, h0⟩
  · show HouT u keep c' t ((h.out ++ [x]).getD t 0)
    by_cases htn : t < n
    · rw [e1 t htn]; exact (hi.one t htn).mono hc
    · obtain rfl : t = n := by omega
      rw [e2]; exact ho
  · show clB _ _ _ = true → 0 ≤ (h.out ++ [x]).getD t 0 → (h.out ++ [x]).getD t 0 ≠ (h.out ++ [x]).getD t' 0
    by_cases htn : t' < n
    · rw [e1 t (by omega), e1 t' htn]; exact hi.ne t t' h1 htn
    · obtain rfl : t' = n := by omega
      rw [e1 t h1, e2]; exact hne t h1
  · show (h.out ++ [x]).getD t 0 ≤ -2 → (h.out ++ [x]).getD t 0 ≠ (h.out ++ [x]).getD t' 0
    by_cases htn : t' < n
    · rw [e1 t (by omega), e1 t' htn]; exact hi.uq t t' h1 htn
    · obtain rfl : t' = n := by omega
      rw [e1 t h1, e2]; exact huq t h1
theorem HouI.step {u : UntN} {keep : Int} {n : Nat} {h : HouN} (ha : 0 ≤ u.args) (hi : HouI u keep n h) : HouI u keep (n + 1) (houOne (clashL u) (usedL u) keep u.args h n) := by
  have hc := hi.cel
  have hfi := hi.fin
  unfold houOne
  split
  · rename_i hu
    have hu : (n : Int) ∈ usedL u := List.contains_iff_mem.1 hu
    split
    · rename_i hk
      refine hi.snoc (fun y => ?_) (Int.le_refl _) (by omega) (.inr ⟨hu, .inl ⟨by omega, hk⟩⟩) (fun t ht hcl h0 e => ?_) (fun t ht h0 => by omega)
      · rw [List.mem_append, List.mem_singleton]
        exact or_congr_right ⟨fun e => ⟨e, by omega⟩, fun e => e.1⟩
      · have hb := (colN_spec (clashL u) h.had (n : Int)).2
        unfold colBad at hb
        rw [List.any_eq_false] at hb
        refine hb ((t : Int), h.out.getD t 0) ((hi.had _).2 ⟨t, ht, rfl, h0⟩) ?_
        rw [Bool.and_eq_true]
        exact ⟨by simpa using e, hcl⟩
    · split
      · rename_i hna
        refine hi.snoc (fun y => ⟨fun e => .inl e, fun e => e.elim id (fun e => by omega)⟩) (Int.le_refl _) (by omega) (.inr ⟨hu, .inr (.inl ⟨hna, rfl⟩)⟩) (fun t ht hcl h0 => by omega) (fun t ht h0 => ?_)
        obtain ⟨_, h2 | ⟨h2, d, h3, h4, h5⟩⟩ := (hi.one t ht).ge h0
        · omega
        · omega
      · rename_i hna
        refine hi.snoc (fun y => ⟨fun e => .inl e, fun e => e.elim id (fun e => by omega)⟩) (by omega) (by omega) (.inr ⟨hu, .inr (.inr ⟨by omega, h.cells, hc, by omega, rfl⟩)⟩) (fun t ht hcl h0 => by omega) (fun t ht h0 => ?_)
        obtain ⟨_, h2 | ⟨h2, d, h3, h4, h5⟩⟩ := (hi.one t ht).ge h0
        · omega
        · omega
  · rename_i hu
    have hu : (n : Int) ∉ usedL u := fun e => hu (List.contains_iff_mem.2 e)
    exact hi.snoc (fun y => ⟨fun e => .inl e, fun e => e.elim id (fun e => by omega)⟩) (Int.le_refl _) (by omega) (.inl ⟨hu, rfl⟩) (fun t ht hcl h0 => by omega) (fun t ht h0 => by omega)

/-- The code that is written for a group. -/
def grpCode (u : UntN) (live : List (List Int)) (h : List Int) (k : Nat) (g : GrpN) : List InsN :=
  (grpLoads h g).map (fun s => loadI (inTmp (grpLoads h g) (freeL h k (grpBusy u live g)) s) (-2 - homeN h s)) ++
  ((List.range (g.til + 1 - g.frm)).map (fun j => replI (u.code.getD (g.frm + j) ins0) (rdTo h (grpLoads h g) (freeL h k (grpBusy u live g))) (wrTo h (freeL h k (grpBehind u live g)))) ++
  (if 0 ≤ g.wr ∧ homeN h g.wr ≤ -2 then [storeI (-2 - homeN h g.wr) (wrTo h (freeL h k (grpBehind u live g)) g.wr)] else []))
/-- Where the instructions of a group are. -/
structure PosG (h ats : List Int) (a : Nat) (g : GrpN) : Prop where
  at0 : ats.getD g.frm 0 = (a : Int)
  atj : ∀ j, g.frm < j → j ≤ g.til → ats.getD j 0 = ((a + (grpLoads h g).length + (j - g.frm) : Nat) : Int)
theorem getDI_set (l : List Int) (i : Nat) (x : Int) (j : Nat) (h : i < l.length) : (l.set i x).getD j 0 = if j = i then x else l.getD j 0 := by
  simp only [List.getD_eq_getElem?_getD, List.getElem?_set]
  by_cases e : i = j
  · subst e
    simp [h]
  · simp [e, show ¬ j = i from fun h => e h.symm]
section
variable {u : UntN} {live : List (List Int)} {h loads temps fr : List Int} {k : Nat}
end
/-- Groups one behind the other, from a place on. -/
def GrpsFrom (u : UntN) : Nat → List GrpN → Prop
  | _, [] => True
  | i, g :: gs => g.frm = i ∧ g.frm ≤ g.til ∧ g.til < u.code.length ∧ GrpsFrom u (g.til + 1) gs
def PosL (u : UntN) (live : List (List Int)) (h : List Int) (k : Nat) (ats : List Int) : Nat → List GrpN → Prop
  | _, [] => True
  | a, g :: gs => PosG h ats a g ∧ PosL u live h k ats (a + (grpCode u live h k g).length) gs



section
variable {u : UntN} {k : Nat}
end

section
variable {u : UntN} {k : Nat}
end

section
variable {u : UntN} {k : Nat}
end
end Go.Proofs.YtgalekifgnecjaaGreat
