/- A unit whose slots have other names: plain laws. A unit whose slots have other names can be written anew just as well, with the same least number, the same press and as many clashes. -/
import Derived.Test.YtgalekifgnecjaaGreatV1
import Derived.Test.YtgalekifgnecjaaGreatS6
namespace Go.Proofs.YtgalekifgnecjaaGreat
open Go.RowKit

/-- Other names for the slots that are no arguments. -/
structure RenF (f g : Int → Int) (a n : Int) : Prop where
  fg : ∀ x, f (g x) = x
  gf : ∀ x, g (f x) = x
  lo : ∀ x, x < a → f x = x
  hi : ∀ x, n ≤ x → f x = x
  mid : ∀ x, a ≤ x → x < n → a ≤ f x ∧ f x < n
  a0 : 0 ≤ a
def turnI (a n by' : Int) (s : Int) : Int := if s < a ∨ n ≤ s then s else a + (s - a + by') % (n - a)
section
variable {f g : Int → Int} {a n : Int}
theorem RenF.inj (h : RenF f g a n) {x y : Int} (e : f x = f y) : x = y := by rw [← h.gf x, e, h.gf]
theorem RenF.neg (h : RenF f g a n) {x : Int} (hx : x < 0) : f x = x := h.lo x (by have := h.a0; omega)
theorem RenF.pos (h : RenF f g a n) {x : Int} (hx : 0 ≤ x) : 0 ≤ f x := by
  have := h.a0
  by_cases h1 : x < a
  · rw [h.lo x h1]; exact hx
  · by_cases h2 : x < n
    · have := h.mid x (by omega) h2; omega
    · rw [h.hi x (by omega)]; exact hx
theorem RenF.one (h : RenF f g a n) (x : Int) : (f x = -1) = (x = -1) := by
  apply propext
  constructor
  · intro e
    by_cases hx : x < 0
    · rwa [h.neg hx] at e
    · have := h.pos (x := x) (by omega); omega
  · rintro rfl; exact h.neg (by omega)
theorem RenF.below (h : RenF f g a n) (x : Int) : f x < n ↔ x < n := by
  by_cases h1 : x < a
  · rw [h.lo x h1]
  · by_cases h2 : x < n
    · have := h.mid x (by omega) h2; omega
    · rw [h.hi x (by omega)]
def renI (f : Int → Int) (x : InsN) : InsN := replI x f f
/-- What an instruction with other names reads, writes and leads to. -/
structure RenX (f : Int → Int) (x : InsN) : Prop where
  rd : readsL (renI f x) = (readsL x).map f
  wr : writesI (renI f x) = f (writesI x)
  pl : placesL (renI f x) = placesL x
  po : placeO (renI f x) = placeO x
  ag : argB x = true → (renI f x).a = x.a
end

open Go.RowKit Go.Shelf
def renU (f : Int → Int) (u : UntN) : UntN := ⟨u.cls, u.name, u.args, u.slots, u.frame, u.code.map (renI f), u.guards⟩
/-- What is known of the operations of a unit. -/
def OpsIn (u : UntN) : Prop := ∀ x ∈ u.code, 0 ≤ x.op ∧ x.op ≤ 32
section
variable {f g : Int → Int} {u : UntN}
variable {a n : Int}
def renG (f : Int → Int) (x : GrpN) : GrpN := ⟨x.frm, x.til, x.reads.map f, f x.wr⟩
/-- One list holds the other names of another one. -/
def RelS (f : Int → Int) (l m : List Int) : Prop := ∀ x, f x ∈ m ↔ x ∈ l
def RelL (f : Int → Int) (s s' : List (List Int)) : Prop := ∀ t, RelS f (s.getD t []) (s'.getD t [])
theorem map_nodup (h : RenF f g a n) : ∀ {l : List Int}, l.Nodup → (l.map f).Nodup
  | [], _ => List.nodup_nil
  | x :: l, hn => by
    obtain ⟨h1, h2⟩ := List.nodup_cons.1 hn
    rw [List.map_cons, List.nodup_cons]
    refine ⟨fun hm => ?_, map_nodup h h2⟩
    obtain ⟨y, hy, e⟩ := List.mem_map.1 hm
    exact h1 (h.inj e ▸ hy)
theorem RelS.len (h : RenF f g a n) {l m : List Int} (hr : RelS f l m) (hl : l.Nodup) (hm : m.Nodup) : m.length = l.length := by
  have h1 := nodup_sub_len (map_nodup h hl) (m := m) (fun y hy => by
    obtain ⟨x, hx, rfl⟩ := List.mem_map.1 hy
    exact (hr x).2 hx)
  have h2 := nodup_sub_len hm (m := l.map f) (fun y hy => by
    refine List.mem_map.2 ⟨g y, (hr (g y)).1 ?_, h.fg y⟩
    rw [h.fg]; exact hy)
  rw [List.length_map] at h1 h2
  omega
theorem addL_nodup : ∀ (m : List Int) {l : List Int}, l.Nodup → (addL l m).Nodup
  | [], _, h => h
  | x :: m, l, h => by
    have e : addL l (x :: m) = addL (if l.contains x = true then l else l ++ [x]) m := rfl
    rw [e]
    refine addL_nodup m ?_
    split
    · exact h
    · rename_i hx
      rw [List.contains_iff_mem] at hx
      exact List.nodup_append.2 ⟨h, by simp, fun y hy z hz e => hx (by rw [List.mem_singleton.1 hz] at e; exact e ▸ hy)⟩
theorem foldNeed_nodup (L : List (List Int)) : ∀ (ps : List Int) {s : List Int}, s.Nodup → (ps.foldl (fun out p => addL out (L.getD p.toNat [])) s).Nodup
  | [], _, h => h
  | _p :: ps, _s, h => foldNeed_nodup L ps (addL_nodup _ h)
theorem needL_nodup (L : List (List Int)) (ps : List Int) : (needL L ps).Nodup := foldNeed_nodup L ps List.nodup_nil
theorem RelL.set {s s' : List (List Int)} (hr : RelL f s s') {t : Nat} {l m : List Int} (h1 : t < s.length) (h2 : t < s'.length) (hm : RelS f l m) : RelL f (s.set t l) (s'.set t m) := by
  intro k
  rw [getD_set _ _ _ _ h1, getD_set _ _ _ _ h2]
  split
  · exact hm
  · exact hr k
/-- One list of pairs holds the other names of another one. -/
def RelP (f : Int → Int) (l m : List (Int × Int)) : Prop := ∀ x y, pairP (f x) (f y) ∈ m ↔ pairP x y ∈ l
theorem pairP_iff {x y z t : Int} : pairP x y = pairP z t ↔ (x = z ∧ y = t) ∨ (x = t ∧ y = z) := by
  unfold pairP
  rw [Prod.mk.injEq]
  omega
theorem mem_noteP {l : List (Int × Int)} {s t : Int} {p : Int × Int} : p ∈ noteP l s t ↔ p ∈ l ∨ (s ≠ t ∧ p = pairP s t) := by
  unfold noteP
  split
  · rename_i e
    simp [e]
  · rename_i e
    rw [mem_insP]
    constructor
    · rintro (h | h)
      · exact .inr ⟨e, h⟩
      · exact .inl h
    · rintro (h | ⟨_, h⟩)
      · exact .inr h
      · exact .inl h
theorem mem_foldNote {s : Int} {p : Int × Int} : ∀ {bs : List Int} {l : List (Int × Int)}, p ∈ bs.foldl (fun l b => noteP l s b) l ↔ p ∈ l ∨ ∃ b ∈ bs, s ≠ b ∧ p = pairP s b
  | [], l => by simp
  | b :: bs, l => by
    rw [List.foldl_cons, mem_foldNote, mem_noteP]
    simp only [List.mem_cons, exists_eq_or_imp]
    rw [or_assoc]
theorem RelP.note (h : RenF f g a n) {l m : List (Int × Int)} (hr : RelP f l m) (s t : Int) : RelP f (noteP l s t) (noteP m (f s) (f t)) := by
  intro x y
  rw [mem_noteP, mem_noteP, hr x y, pairP_iff, pairP_iff]
  have e : ∀ p q : Int, (f p = f q) = (p = q) := fun p q => propext ⟨h.inj, fun e => by rw [e]⟩
  simp only [e, ne_eq]
theorem RelP.fold (h : RenF f g a n) {l m : List (Int × Int)} (hr : RelP f l m) (s : Int) {bs bs' : List Int} (hb : RelS f bs bs') :
    RelP f (bs.foldl (fun l b => noteP l s b) l) (bs'.foldl (fun l b => noteP l (f s) b) m) := by
  intro x y
  rw [mem_foldNote, mem_foldNote, hr x y]
  have e : ∀ p q : Int, (f p = f q) = (p = q) := fun p q => propext ⟨h.inj, fun e => by rw [e]⟩
  refine or_congr_right ?_
  constructor
  · rintro ⟨b, hb1, hne, hp⟩
    obtain ⟨c, rfl⟩ : ∃ c, b = f c := ⟨g b, (h.fg b).symm⟩
    rw [pairP_iff] at hp
    simp only [e] at hp
    exact ⟨c, (hb c).1 hb1, fun e2 => hne (by rw [e2]), pairP_iff.2 hp⟩
  · rintro ⟨b, hb1, hne, hp⟩
    rw [pairP_iff] at hp
    refine ⟨f b, (hb b).2 hb1, fun e2 => hne (h.inj e2), pairP_iff.2 ?_⟩
    simp only [e]
    exact hp
end
end Go.Proofs.YtgalekifgnecjaaGreat
