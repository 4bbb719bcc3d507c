/- The homes that slots are given: plain laws. What the writer writes, group by group: plain laws. What is written for a group is what the check wants: plain laws. What is written stands for the unit: plain laws. The unit that is written stands for the old one: plain laws. How much is written, and how many slots there are: plain laws. The unit that is written is plain; a unit stands for itself: plain laws. -/
import Derived.Test.YtgalekifgnecjaaGreatQ2
import Derived.Test.YtgalekifgnecjaaGreatT18
import Derived.Test.YtgalekifgnecjaaGreatT4
import Derived.Test.YtgalekifgnecjaaGreatN6
import Derived.Test.YtgalekifgnecjaaGreatN7
namespace Go.Proofs.YtgalekifgnecjaaGreat
open Go.RowKit

open Go.RowKit Go.Shelf
theorem mem_used {u : UntN} {s : Int} : s ∈ usedL u ↔ (0 ≤ s ∧ s < (u.args.toNat : Int)) ∨ ∃ x ∈ u.code, s ∈ readsL x ∨ (0 ≤ writesI x ∧ s = writesI x) := by
  have h : ∀ (c : List InsN) (l : List Int), s ∈ c.foldl (fun l x => if 0 ≤ writesI x then insS (writesI x) ((readsL x).foldl (fun l s => insS s l) l) else (readsL x).foldl (fun l s => insS s l) l) l ↔
      s ∈ l ∨ ∃ x ∈ c, s ∈ readsL x ∨ (0 ≤ writesI x ∧ s = writesI x) := by
    intro c
    induction c with
    | nil => intro l; simp
    | cons y c ih =>
      intro l
      rw [List.foldl_cons, ih]
      simp only [List.mem_cons, exists_eq_or_imp]
      have e : (s ∈ if 0 ≤ writesI y then insS (writesI y) ((readsL y).foldl (fun l s => insS s l) l) else (readsL y).foldl (fun l s => insS s l) l) ↔ s ∈ l ∨ (s ∈ readsL y ∨ (0 ≤ writesI y ∧ s = writesI y)) := by
        split
        · rename_i hy
          rw [mem_insS, mem_foldIns]
          constructor
          · rintro (h | h | h)
            · exact .inr (.inr ⟨hy, h⟩)
            · exact .inl h
            · exact .inr (.inl h)
          · rintro (h | h | h)
            · exact .inr (.inl h)
            · exact .inr (.inr h)
            · exact .inl h.2
        · rename_i hy
          rw [mem_foldIns]
          constructor
          · rintro (h | h)
            · exact .inl h
            · exact .inr (.inl h)
          · rintro (h | h | h)
            · exact .inl h
            · exact .inr h
            · exact absurd h.1 hy
      rw [e, or_assoc]
  unfold usedL
  rw [h]
  refine or_congr_left ?_
  rw [List.mem_map]
  constructor
  · rintro ⟨k, hk, rfl⟩
    have := List.mem_range.1 hk
    exact ⟨by show (0 : Int) ≤ (k : Int); omega, by show (k : Int) < _; omega⟩
  · rintro ⟨h1, h2⟩
    exact ⟨s.toNat, List.mem_range.2 (by omega), by show ((s.toNat : Nat) : Int) = s; omega⟩
theorem live_used {u : UntN} {t : Nat} {x : Int} (hx : x ∈ (liveL u).getD t []) : x ∈ usedL u := by
  have h1 := (live_good u).un t x hx
  unfold univL at h1
  rw [List.mem_flatMap] at h1
  obtain ⟨y, hy, hx2⟩ := h1
  exact mem_used.2 (.inr ⟨y, hy, .inl hx2⟩)
theorem need_used {u : UntN} {ps : List Int} {x : Int} (hx : x ∈ needL (liveL u) ps) : x ∈ usedL u := by
  obtain ⟨p, _, h⟩ := needL_mem.1 hx
  exact live_used h
def PUsed (u : UntN) (l : List (Int × Int)) : Prop := ∀ p ∈ l, p.1 ∈ usedL u ∧ p.2 ∈ usedL u
theorem PUsed.note {u : UntN} {l : List (Int × Int)} (h : PUsed u l) {s t : Int} (hs : s ∈ usedL u) (ht : t ∈ usedL u) : PUsed u (noteP l s t) := by
  intro p hp
  rcases mem_noteP.1 hp with hp | ⟨_, rfl⟩
  · exact h p hp
  · unfold pairP
    rcases (show s ≤ t ∨ t ≤ s by omega) with hc | hc
    · exact ⟨by show min s t ∈ _; rw [show min s t = s by omega]; exact hs, by show max s t ∈ _; rw [show max s t = t by omega]; exact ht⟩
    · exact ⟨by show min s t ∈ _; rw [show min s t = t by omega]; exact ht, by show max s t ∈ _; rw [show max s t = s by omega]; exact hs⟩
theorem PUsed.fold {u : UntN} {s : Int} (hs : s ∈ usedL u) : ∀ {bs : List Int} {l : List (Int × Int)}, PUsed u l → (∀ b ∈ bs, b ∈ usedL u) → PUsed u (bs.foldl (fun l b => noteP l s b) l)
  | [], _, h, _ => h
  | b :: bs, l, h, hb => by
    rw [List.foldl_cons]
    exact PUsed.fold hs (h.note hs (hb b (by simp))) (fun c hc => hb c (by simp [hc]))
theorem arg_used {u : UntN} {k : Nat} (h : k < u.args.toNat) : (k : Int) ∈ usedL u := mem_used.2 (.inl ⟨by omega, by omega⟩)
theorem clArgs_used {u : UntN} : ∀ (k : Nat), k ≤ u.args.toNat → PUsed u (clArgs [] k)
  | 0, _ => fun p hp => by simp [clArgs] at hp
  | k + 1, hk => by
    have ih := clArgs_used (u := u) k (by omega)
    unfold clArgs
    have hf : ∀ (j : Nat), j ≤ k → PUsed u ((List.range j).foldl (fun l (b : Nat) => noteP l k b) (clArgs [] k)) := by
      intro j
      induction j with
      | zero => intro _; exact ih
      | succ j ihj =>
        intro hj
        rw [List.range_succ, List.foldl_append]
        exact (ihj (by omega)).note (arg_used (by omega)) (arg_used (by omega))
    exact hf k (Nat.le_refl _)
theorem clLive_used {u : UntN} {l : List (Int × Int)} (h : PUsed u l) {s0 : List Int} (hs : ∀ b ∈ s0, b ∈ usedL u) : ∀ (k : Nat), k ≤ u.args.toNat → PUsed u (clLive l s0 k)
  | 0, _ => h
  | k + 1, hk => by
    unfold clLive
    exact (clLive_used h hs k (by omega)).fold (arg_used (by omega)) hs
theorem clIns_used {u : UntN} {l : List (Int × Int)} (h : PUsed u l) {t : Nat} (ht : t < u.code.length) : PUsed u (clIns u (liveL u) l t) := by
  unfold clIns
  split
  · rename_i hy
    rw [getD_in ht] at *
    exact h.fold (mem_used.2 (.inr ⟨_, List.getElem_mem ht, .inr ⟨hy, rfl⟩⟩)) (fun b hb => need_used hb)
  · exact h
theorem clash_used (u : UntN) : PUsed u (clashL u) := by
  have hf : ∀ (k : Nat), k ≤ u.code.length → PUsed u ((List.range k).foldl (clIns u (liveL u)) (clLive (clArgs [] u.args.toNat) ((liveL u).getD 0 []) u.args.toNat)) := by
    intro k
    induction k with
    | zero => intro _; exact clLive_used (clArgs_used _ (Nat.le_refl _)) (fun b hb => live_used hb) _ (Nat.le_refl _)
    | succ k ih =>
      intro hk
      rw [List.range_succ, List.foldl_append]
      exact clIns_used (ih (by omega)) (by omega)
  exact hf _ (Nat.le_refl _)
/-- What home a slot can have. -/
def HouT (u : UntN) (keep cells : Int) (t : Nat) (x : Int) : Prop :=
  ((t : Int) ∉ usedL u ∧ x = -1) ∨ ((t : Int) ∈ usedL u ∧ ((0 ≤ x ∧ x < keep) ∨ ((t : Int) < u.args ∧ x = -2 - (t : Int)) ∨ (u.args ≤ (t : Int) ∧ ∃ c, u.args ≤ c ∧ c < cells ∧ x = -2 - c)))
structure HouI (u : UntN) (keep : Int) (n : Nat) (h : HouN) : Prop where
  len : h.out.length = n
  had : ∀ x, x ∈ h.had ↔ ∃ t, t < n ∧ x = ((t : Int), h.out.getD t 0) ∧ 0 ≤ h.out.getD t 0
  cel : u.args ≤ h.cells
  fin : h.cells ≤ max u.args n
  one : ∀ t, t < n → HouT u keep h.cells t (h.out.getD t 0)
  ne : ∀ t t', t < t' → t' < n → clB (clashL u) t' t = true → 0 ≤ h.out.getD t 0 → h.out.getD t 0 ≠ h.out.getD t' 0
  uq : ∀ t t', t < t' → t' < n → h.out.getD t 0 ≤ -2 → h.out.getD t 0 ≠ h.out.getD t' 0
theorem getD_snoc_lt {l : List Int} {x : Int} {t : Nat} (h : t < l.length) : (l ++ [x]).getD t 0 = l.getD t 0 := by
  simp only [List.getD_eq_getElem?_getD, List.getElem?_append_left h]
theorem getD_snoc_eq {l : List Int} {x : Int} {t : Nat} (h : l.length = t) : (l ++ [x]).getD t 0 = x := by
  subst h
  simp
theorem HouT.mono {u : UntN} {keep c c' : Int} (h : c ≤ c') {t : Nat} {x : Int} (hx : HouT u keep c t x) : HouT u keep c' t x := by
  rcases hx with hx | ⟨h1, h2 | h2 | ⟨h3, d, h4, h5, h6⟩⟩
  · exact .inl hx
  · exact .inr ⟨h1, .inl h2⟩
  · exact .inr ⟨h1, .inr (.inl h2)⟩
  · exact .inr ⟨h1, .inr (.inr ⟨h3, d, h4, by omega, h6⟩)⟩
theorem HouT.ge {u : UntN} {keep c : Int} {t : Nat} {x : Int} (hx : HouT u keep c t x) (hn : x ≤ -2) : (t : Int) ∈ usedL u ∧ (((t : Int) < u.args ∧ x = -2 - (t : Int)) ∨ (u.args ≤ (t : Int) ∧ ∃ d, u.args ≤ d ∧ d < c ∧ x = -2 - d)) := by
  rcases hx with ⟨_, hx⟩ | ⟨h1, h2 | h2⟩
  · omega
  · omega
  · exact ⟨h1, h2⟩
/-- One slot more. -/
theorem HouI.snoc {u : UntN} {keep : Int} {n : Nat} {h : HouN} (hi : HouI u keep n h) {x c' : Int} {had' : List (Int × Int)}
    (hh : ∀ y, y ∈ had' ↔ y ∈ h.had ∨ (y = ((n : Int), x) ∧ 0 ≤ x)) (hc : h.cells ≤ c') (hf : c' ≤ max u.args ((n : Int) + 1)) (ho : HouT u keep c' n x)
    (hne : ∀ t, t < n → clB (clashL u) n t = true → 0 ≤ h.out.getD t 0 → h.out.getD t 0 ≠ x) (huq : ∀ t, t < n → h.out.getD t 0 ≤ -2 → h.out.getD t 0 ≠ x) : HouI u keep (n + 1) ⟨had', h.out ++ [x], c'⟩ := by
  have hl := hi.len
  have e1 : ∀ t, t < n → (h.out ++ [x]).getD t 0 = h.out.getD t 0 := fun t ht => getD_snoc_lt (by omega)
  have e2 : (h.out ++ [x]).getD n 0 = x := getD_snoc_eq hl
  refine ⟨by rw [List.length_append, hl]; rfl, fun y => ?_, by have := hi.cel; show u.args ≤ c'; omega, by show c' ≤ _; omega, fun t ht => ?_, fun t t' h1 h2 => ?_, fun t t' h1 h2 => ?_⟩
  · show y ∈ had' ↔ _
    rw [hh, hi.had]
    constructor
    · rintro (⟨t, ht, e, h0⟩ | ⟨e, h0⟩)
      · exact ⟨t, by omega, by rw [e1 t ht]; exact e, by rw [e1 t ht]; exact h0⟩
      · exact ⟨n, by omega, by rw [e2]; exact e, by rw [e2]; exact h0⟩
    · rintro ⟨t, ht, e, h0⟩
      by_cases htn : t < n
      · rw [e1 t htn] at e h0
        exact .inl ⟨t, htn, e, h0⟩
      · obtain rfl : t = n := by omega
        rw [e2] at e h0
        exact .inr ⟨e, h0⟩
  · show HouT u keep c' t ((h.out ++ [x]).getD t 0)
    by_cases htn : t < n
    · rw [e1 t htn]; exact (hi.one t htn).mono hc
    · obtain rfl : t = n := by omega
      rw [e2]; exact ho
  · show clB _ _ _ = true → 0 ≤ (h.out ++ [x]).getD t 0 → (h.out ++ [x]).getD t 0 ≠ (h.out ++ [x]).getD t' 0
    by_cases htn : t' < n
    · rw [e1 t (by omega), e1 t' htn]; exact hi.ne t t' h1 htn
    · obtain rfl : t' = n := by omega
      rw [e1 t h1, e2]; exact hne t h1
  · show (h.out ++ [x]).getD t 0 ≤ -2 → (h.out ++ [x]).getD t 0 ≠ (h.out ++ [x]).getD t' 0
    by_cases htn : t' < n
    · rw [e1 t (by omega), e1 t' htn]; exact hi.uq t t' h1 htn
    · obtain rfl : t' = n := by omega
      rw [e1 t h1, e2]; exact huq t h1
theorem HouI.step {u : UntN} {keep : Int} {n : Nat} {h : HouN} (ha : 0 ≤ u.args) (hi : HouI u keep n h) : HouI u keep (n + 1) (houOne (clashL u) (usedL u) keep u.args h n) := by
  have hc := hi.cel
  have hfi := hi.fin
  unfold houOne
  split
  · rename_i hu
    have hu : (n : Int) ∈ usedL u := List.contains_iff_mem.1 hu
    split
    · rename_i hk
      refine hi.snoc (fun y => ?_) (Int.le_refl _) (by omega) (.inr ⟨hu, .inl ⟨by omega, hk⟩⟩) (fun t ht hcl h0 e => ?_) (fun t ht h0 => by omega)
      · rw [List.mem_append, List.mem_singleton]
        exact or_congr_right ⟨fun e => ⟨e, by omega⟩, fun e => e.1⟩
      · have hb := (colN_spec (clashL u) h.had (n : Int)).2
        unfold colBad at hb
        rw [List.any_eq_false] at hb
        refine hb ((t : Int), h.out.getD t 0) ((hi.had _).2 ⟨t, ht, rfl, h0⟩) ?_
        rw [Bool.and_eq_true]
        exact ⟨by simpa using e, hcl⟩
    · split
      · rename_i hna
        refine hi.snoc (fun y => ⟨fun e => .inl e, fun e => e.elim id (fun e => by omega)⟩) (Int.le_refl _) (by omega) (.inr ⟨hu, .inr (.inl ⟨hna, rfl⟩)⟩) (fun t ht hcl h0 => by omega) (fun t ht h0 => ?_)
        obtain ⟨_, h2 | ⟨h2, d, h3, h4, h5⟩⟩ := (hi.one t ht).ge h0
        · omega
        · omega
      · rename_i hna
        refine hi.snoc (fun y => ⟨fun e => .inl e, fun e => e.elim id (fun e => by omega)⟩) (by omega) (by omega) (.inr ⟨hu, .inr (.inr ⟨by omega, h.cells, hc, by omega, rfl⟩)⟩) (fun t ht hcl h0 => by omega) (fun t ht h0 => ?_)
        obtain ⟨_, h2 | ⟨h2, d, h3, h4, h5⟩⟩ := (hi.one t ht).ge h0
        · omega
        · omega
  · rename_i hu
    have hu : (n : Int) ∉ usedL u := fun e => hu (List.contains_iff_mem.2 e)
    exact hi.snoc (fun y => ⟨fun e => .inl e, fun e => e.elim id (fun e => by omega)⟩) (Int.le_refl _) (by omega) (.inl ⟨hu, rfl⟩) (fun t ht hcl h0 => by omega) (fun t ht h0 => by omega)
/-- The homes of all slots. -/
theorem hou_all {u : UntN} (hw : writB u = true) (k : Int) : HouI u (k - leastN u) u.slots.toNat (houL u k) := by
  have ha := (writ_args hw).1
  have hf : ∀ n : Nat, HouI u (k - leastN u) n ((List.range n).foldl (houOne (clashL u) (usedL u) (k - leastN u) u.args) ⟨[], [], u.args⟩) := by
    intro n
    induction n with
    | zero => exact ⟨rfl, fun x => ⟨fun h => (by cases h), fun ⟨t, h, _⟩ => absurd h (Nat.not_lt_zero t)⟩, Int.le_refl _, by show u.args ≤ max u.args 0; omega, fun t h => absurd h (Nat.not_lt_zero t), fun t t' _ h => absurd h (Nat.not_lt_zero t'), fun t t' _ h => absurd h (Nat.not_lt_zero t')⟩
    | succ n ih =>
      rw [List.range_succ, List.foldl_append]
      exact ih.step ha
  exact hf _

open Go.RowKit Go.Shelf
/-- The code that is written for a group. -/
def grpCode (u : UntN) (live : List (List Int)) (h : List Int) (k : Nat) (g : GrpN) : List InsN :=
  (grpLoads h g).map (fun s => loadI (inTmp (grpLoads h g) (freeL h k (grpBusy u live g)) s) (-2 - homeN h s)) ++
  ((List.range (g.til + 1 - g.frm)).map (fun j => replI (u.code.getD (g.frm + j) ins0) (rdTo h (grpLoads h g) (freeL h k (grpBusy u live g))) (wrTo h (freeL h k (grpBehind u live g)))) ++
  (if 0 ≤ g.wr ∧ homeN h g.wr ≤ -2 then [storeI (-2 - homeN h g.wr) (wrTo h (freeL h k (grpBehind u live g)) g.wr)] else []))
/-- Where the instructions of a group are. -/
structure PosG (h ats : List Int) (a : Nat) (g : GrpN) : Prop where
  at0 : ats.getD g.frm 0 = (a : Int)
  atj : ∀ j, g.frm < j → j ≤ g.til → ats.getD j 0 = ((a + (grpLoads h g).length + (j - g.frm) : Nat) : Int)
theorem getDI_set (l : List Int) (i : Nat) (x : Int) (j : Nat) (h : i < l.length) : (l.set i x).getD j 0 = if j = i then x else l.getD j 0 := by
  simp only [List.getD_eq_getElem?_getD, List.getElem?_set]
  by_cases e : i = j
  · subst e
    simp [h]
  · simp [e, show ¬ j = i from fun h => e h.symm]
section
variable {u : UntN} {live : List (List Int)} {h loads temps fr : List Int} {k : Nat}
theorem insFold_code (l : List Nat) (w : WriN) : (l.foldl (grpIns u h loads temps fr) w).code = w.code ++ l.map fun i => replI (u.code.getD i ins0) (rdTo h loads temps) (wrTo h fr) := by
  induction l generalizing w with
  | nil => simp
  | cons i l ih =>
    rw [List.foldl_cons, ih]
    unfold grpIns
    rw [List.map_cons, List.append_assoc]
    rfl
theorem insFold_len (l : List Nat) (w : WriN) : (l.foldl (grpIns u h loads temps fr) w).ats.length = w.ats.length := by
  induction l generalizing w with
  | nil => rfl
  | cons i l ih =>
    rw [List.foldl_cons, ih]
    unfold grpIns
    rw [List.length_set]
/-- The places of the instructions behind the first one. -/
theorem insFold_at (f : Nat) : ∀ (m : Nat) (w : WriN), f + 1 + m ≤ w.ats.length →
    (∀ j, f < j → j ≤ f + m → (((List.range m).map (f + 1 + ·)).foldl (grpIns u h loads temps fr) w).ats.getD j 0 = ((w.code.length + (j - f - 1) : Nat) : Int)) ∧
    (∀ j, (j ≤ f ∨ f + m < j) → (((List.range m).map (f + 1 + ·)).foldl (grpIns u h loads temps fr) w).ats.getD j 0 = w.ats.getD j 0)
  | 0, w, _ => ⟨fun j h1 h2 => by omega, fun j _ => rfl⟩
  | m + 1, w, hl => by
    obtain ⟨h1, h2⟩ := insFold_at f m w (by omega)
    rw [List.range_succ, List.map_append, List.foldl_append]
    have hc := insFold_code (u := u) (h := h) (loads := loads) (temps := temps) (fr := fr) ((List.range m).map (f + 1 + ·)) w
    have hn := insFold_len (u := u) (h := h) (loads := loads) (temps := temps) (fr := fr) ((List.range m).map (f + 1 + ·)) w
    generalize ((List.range m).map (f + 1 + ·)).foldl (grpIns u h loads temps fr) w = w1 at *
    have hcl : w1.code.length = w.code.length + m := by rw [hc, List.length_append, List.length_map, List.length_map, List.length_range]
    have e : ∀ j, ((List.map (f + 1 + ·) [m]).foldl (grpIns u h loads temps fr) w1).ats.getD j 0 = if j = f + 1 + m then ((w1.code.length : Nat) : Int) else w1.ats.getD j 0 := fun j => by
      show (w1.ats.set (f + 1 + m) w1.code.length).getD j 0 = _
      rw [getDI_set _ _ _ _ (by omega)]
    refine ⟨fun j g1 g2 => ?_, fun j g1 => ?_⟩
    · rw [e]
      by_cases hj : j = f + 1 + m
      · rw [if_pos hj, hcl]
        congr 1
        omega
      · rw [if_neg hj]
        exact h1 j g1 (by omega)
    · rw [e, if_neg (by omega)]
      exact h2 j (by omega)
/-- A group is written. -/
theorem grpWri_ok {w : WriN} {g : GrpN} (hle : g.frm ≤ g.til) (hl : g.til < w.ats.length) :
    (grpWri u live h k w g).code = w.code ++ grpCode u live h k g ∧ (grpWri u live h k w g).ats.length = w.ats.length ∧ PosG h (grpWri u live h k w g).ats w.code.length g ∧
    ∀ j, (j < g.frm ∨ g.til < j) → (grpWri u live h k w g).ats.getD j 0 = w.ats.getD j 0 := by
  obtain ⟨m, hm⟩ : ∃ m, g.til = g.frm + m := ⟨g.til - g.frm, by omega⟩
  have hm2 : g.til - g.frm = m := by omega
  have hm3 : g.til + 1 - g.frm = m + 1 := by omega
  unfold grpWri grpCode
  simp only [hm2, hm3]
  generalize hlo : grpLoads h g = loads
  generalize freeL h k (grpBusy u live g) = temps
  generalize freeL h k (grpBehind u live g) = fr
  obtain ⟨w2, hw2⟩ : ∃ w2 : WriN, w2 = ⟨(w.code ++ loads.map fun s => loadI (inTmp loads temps s) (-2 - homeN h s)) ++ [replI (u.code.getD g.frm ins0) (rdTo h loads temps) (wrTo h fr)], w.ats.set g.frm w.code.length⟩ := ⟨_, rfl⟩
  rw [← hw2]
  have hc2 : w2.code.length = w.code.length + loads.length + 1 := by rw [hw2]; simp only [List.length_append, List.length_map, List.length_cons, List.length_nil]
  have ha2 : w2.ats.length = w.ats.length := by rw [hw2]; exact List.length_set
  have hg2 : ∀ j, w2.ats.getD j 0 = if j = g.frm then ((w.code.length : Nat) : Int) else w.ats.getD j 0 := fun j => by rw [hw2]; exact getDI_set _ _ _ _ (by omega)
  have hcd := insFold_code (u := u) (h := h) (loads := loads) (temps := temps) (fr := fr) ((List.range m).map (g.frm + 1 + ·)) w2
  have hln := insFold_len (u := u) (h := h) (loads := loads) (temps := temps) (fr := fr) ((List.range m).map (g.frm + 1 + ·)) w2
  obtain ⟨p1, p2⟩ := insFold_at (u := u) (h := h) (loads := loads) (temps := temps) (fr := fr) g.frm m w2 (by omega)
  generalize ((List.range m).map (g.frm + 1 + ·)).foldl (grpIns u h loads temps fr) w2 = w3 at *
  have hats : ∀ j, (if 0 ≤ g.wr ∧ homeN h g.wr ≤ -2 then (⟨w3.code ++ [storeI (-2 - homeN h g.wr) (wrTo h fr g.wr)], w3.ats⟩ : WriN) else w3).ats.getD j 0 = w3.ats.getD j 0 := fun j => by split <;> rfl
  have hats2 : (if 0 ≤ g.wr ∧ homeN h g.wr ≤ -2 then (⟨w3.code ++ [storeI (-2 - homeN h g.wr) (wrTo h fr g.wr)], w3.ats⟩ : WriN) else w3).ats.length = w3.ats.length := by split <;> rfl
  refine ⟨?_, by rw [hats2, hln, ha2], ⟨?_, fun j g1 g2 => ?_⟩, fun j g1 => ?_⟩
  · have e : w3.code = w.code ++ ((loads.map fun s => loadI (inTmp loads temps s) (-2 - homeN h s)) ++ (List.range (m + 1)).map fun j => replI (u.code.getD (g.frm + j) ins0) (rdTo h loads temps) (wrTo h fr)) := by
      rw [hcd, hw2, List.range_succ_eq_map, List.map_cons, List.map_map, List.map_map]
      simp only [List.append_assoc, List.cons_append, List.nil_append]
      congr 3
      congr 1
      funext j
      simp only [Function.comp]
      rw [show g.frm + 1 + j = g.frm + (j + 1) by omega]
    split
    · show w3.code ++ _ = _
      rw [e]
      simp only [List.append_assoc]
    · rw [e]
      simp only [List.append_nil]
  · rw [hats, p2 _ (.inl (Nat.le_refl _)), hg2, if_pos rfl]
  · rw [hats, p1 j g1 (by omega), hc2, hlo]
    congr 1
    omega
  · rw [hats, p2 j (by omega), hg2, if_neg (by omega)]
end
/-- Groups one behind the other, from a place on. -/
def GrpsFrom (u : UntN) : Nat → List GrpN → Prop
  | _, [] => True
  | i, g :: gs => g.frm = i ∧ g.frm ≤ g.til ∧ g.til < u.code.length ∧ GrpsFrom u (g.til + 1) gs
def PosL (u : UntN) (live : List (List Int)) (h : List Int) (k : Nat) (ats : List Int) : Nat → List GrpN → Prop
  | _, [] => True
  | a, g :: gs => PosG h ats a g ∧ PosL u live h k ats (a + (grpCode u live h k g).length) gs
theorem grpsFold_ok {u : UntN} {live : List (List Int)} {h : List Int} {k : Nat} : ∀ (gs : List GrpN) (i : Nat) (w : WriN), GrpsFrom u i gs → w.ats.length = u.code.length →
    (gs.foldl (grpWri u live h k) w).code = w.code ++ gs.flatMap (grpCode u live h k) ∧ (gs.foldl (grpWri u live h k) w).ats.length = u.code.length ∧
    (∀ j, j < i → (gs.foldl (grpWri u live h k) w).ats.getD j 0 = w.ats.getD j 0) ∧ PosL u live h k (gs.foldl (grpWri u live h k) w).ats w.code.length gs
  | [], i, w, _, hl => ⟨by simp, hl, fun j _ => rfl, trivial⟩
  | g :: gs, i, w, hg, hl => by
    obtain ⟨h1, h2, h3, h4⟩ := hg
    obtain ⟨c1, c2, c3, c4⟩ := grpWri_ok (u := u) (live := live) (h := h) (k := k) (w := w) h2 (by omega)
    obtain ⟨d1, d2, d3, d4⟩ := grpsFold_ok (u := u) (live := live) (h := h) (k := k) gs (g.til + 1) (grpWri u live h k w g) h4 (by omega)
    rw [List.foldl_cons]
    refine ⟨by rw [d1, c1, List.flatMap_cons, List.append_assoc], d2, fun j hj => by rw [d3 j (by omega), c4 j (by omega)], ⟨by rw [d3 _ (by omega)]; exact c3.at0, fun j e1 e2 => by rw [d3 j (by omega)]; exact c3.atj j e1 e2⟩, ?_⟩
    rw [c1, List.length_append] at d4
    exact d4
theorem grpsGo_from {u : UntN} : ∀ (f i : Nat), GrpsFrom u i (grpsGo u.code (firstsL u.code) f i)
  | 0, _ => trivial
  | f + 1, i => by
    unfold grpsGo
    split
    · rename_i hi
      have hfl : (firstsL u.code).length = u.code.length := fsTo_length u.code u.code.length
      exact ⟨rfl, grpEnd_ge _ _, by rw [← hfl]; exact grpEnd_lt (by rw [hfl]; exact hi), grpsGo_from f _⟩
    · trivial
/-- All groups are written. -/
theorem wri_ok {u : UntN} (k : Nat) : (wriL u k).code = argLoads (houL u k).out u.args.toNat ++ (groupsL u).flatMap (grpCode u (liveL u) (houL u k).out k) ∧ (wriL u k).ats.length = u.code.length ∧
    PosL u (liveL u) (houL u k).out k (wriL u k).ats (argLoads (houL u k).out u.args.toNat).length (groupsL u) := by
  obtain ⟨h1, h2, _, h4⟩ := grpsFold_ok (u := u) (live := liveL u) (h := (houL u k).out) (k := k) (groupsL u) 0 ⟨argLoads (houL u k).out u.args.toNat, List.replicate u.code.length 0⟩ (grpsGo_from _ _) List.length_replicate
  exact ⟨h1, h2, h4⟩

open Go.RowKit Go.Shelf
theorem drop_cons {α : Type} {l : List α} {a : Nat} {x : α} {r : List α} (h : l.drop a = x :: r) : l[a]? = some x ∧ l.drop (a + 1) = r := by
  constructor
  · have e : (l.drop a)[0]? = some x := by rw [h]; rfl
    rwa [List.getElem?_drop, Nat.add_zero] at e
  · rw [← List.drop_drop, h]; rfl
theorem drop_nil {α : Type} {l : List α} {a : Nat} (h : l.drop a = []) : l[a]? = none := by
  have e : (l.drop a)[0]? = none := by rw [h]; rfl
  rwa [List.getElem?_drop, Nat.add_zero] at e
theorem drop_at {α : Type} {l r : List α} {a : Nat} (h : l.drop a = r) (j : Nat) : l[a + j]? = r[j]? := by rw [← h, List.getElem?_drop]
/-- The loads ahead of a group are read. -/
theorem ldGo_run {v : UntN} {h reads needed : List Int} {tmp : Int → Int} {rest : List InsN} (hrest : ∀ x r, rest = x :: r → x.op ≠ 33) :
    ∀ (ls : List Int) (f a : Nat) (had : List Int) (m : List (Int × Int)), v.code.drop a = ls.map (fun s => loadI (tmp s) (-2 - homeN h s)) ++ rest → ls.length < f →
    (∀ s ∈ ls, s ∈ reads ∧ homeN h s ≤ -2 ∧ inN (tmp s) 0 (v.slots - 1) = true ∧ takenB h (tmp s) needed = false ∧ tmp s ∉ had) → ls.Pairwise (fun s t => tmp s ≠ tmp t) →
    ldGo v h reads needed f a had m = some (a + ls.length, m ++ ls.flatMap fun s0 => (reads.filter fun s => homeN h s == homeN h s0).map fun s => (s, tmp s0))
  | [], f, a, had, m, hd, hf, _, _ => by
    obtain ⟨f, rfl⟩ : ∃ f', f = f' + 1 := ⟨f - 1, by simp at hf; omega⟩
    unfold ldGo
    rw [List.map_nil, List.nil_append] at hd
    cases rest with
    | nil => rw [drop_nil hd]; simp
    | cons x r =>
      rw [(drop_cons hd).1]
      simp only [if_pos (hrest x r rfl)]
      simp
  | s :: ls, f, a, had, m, hd, hf, hs, hp => by
    obtain ⟨f, rfl⟩ : ∃ f', f = f' + 1 := ⟨f - 1, by simp at hf; omega⟩
    rw [List.map_cons, List.cons_append] at hd
    obtain ⟨e1, e2⟩ := drop_cons hd
    obtain ⟨q1, q2, q3, q4, q5⟩ := hs s (by simp)
    obtain ⟨p1, p2⟩ := List.pairwise_cons.1 hp
    have eb : -2 - (-2 - homeN h s) = homeN h s := by omega
    have hone : ldOne v h reads needed (loadI (tmp s) (-2 - homeN h s)) had = true := by
      unfold ldOne loadI
      simp only [eb]
      simp only [Bool.and_eq_true, Bool.not_eq_true', decide_eq_true_eq, List.any_eq_true]
      refine ⟨⟨⟨⟨⟨rfl, q3⟩, ?_⟩, q4⟩, by omega⟩, s, q1, by simp⟩
      cases hc : had.contains (tmp s) with
      | false => rfl
      | true => exact absurd (List.contains_iff_mem.1 hc) q5
    have ih := ldGo_run (v := v) (h := h) (reads := reads) (needed := needed) (tmp := tmp) hrest ls f (a + 1) (had ++ [tmp s]) (ldPut h reads (loadI (tmp s) (-2 - homeN h s)) m) e2 (by simp at hf; omega) (fun t ht => by
      obtain ⟨r1, r2, r3, r4, r5⟩ := hs t (by simp [ht])
      refine ⟨r1, r2, r3, r4, fun e => ?_⟩
      rcases List.mem_append.1 e with e | e
      · exact r5 e
      · exact p1 t ht (List.mem_singleton.1 e).symm) p2
    unfold ldGo
    rw [e1]
    simp only [if_neg (show ¬ (loadI (tmp s) (-2 - homeN h s)).op ≠ 33 from fun e => e rfl), if_pos hone]
    show ldGo v h reads needed f (a + 1) (had ++ [tmp s]) _ = _
    rw [ih, List.flatMap_cons, List.length_cons]
    unfold ldPut loadI
    simp only [eb, List.append_assoc]
    rw [show a + 1 + ls.length = a + (ls.length + 1) by omega]
theorem lastP_of {m : List (Int × Int)} {s r : Int} (h : (s, r) ∈ m) (ha : ∀ x ∈ m, x.1 = s → x.2 = r) : lastP m s = some r := by
  unfold lastP
  cases hf : m.reverse.find? (fun x => x.1 == s) with
  | none =>
    rw [List.find?_eq_none] at hf
    exact absurd (by simp) (hf (s, r) (List.mem_reverse.2 h))
  | some y =>
    have h1 := List.find?_some hf
    have h2 := List.mem_of_find?_eq_some hf
    rw [Option.map_some, ha y (List.mem_reverse.1 h2) (by simpa using h1)]
theorem setR_congr {y : Int} {f g : Int → Int} (h : 0 ≤ y → f y = g y) : setR y f = setR y g := by
  unfold setR
  split
  · rename_i h0; exact h h0
  · rfl
/-- What is replaced hangs on the slots that are read and written. -/
theorem replI_congr {x : InsN} {rd rd' wr wr' : Int → Int} (hr : ∀ s ∈ readsL x, rd s = rd' s) (hw : 0 ≤ writesI x → wr (writesI x) = wr' (writesI x)) : replI x rd wr = replI x rd' wr' := by
  have hA : rdA.contains x.op = true → (formL x.op).r0 = 1 := fun h => ((by decide : ∀ op ∈ rdA, (formL op).r0 = 1) _ (List.contains_iff_mem.1 h))
  have hBC : rdBC.contains x.op = true → (formL x.op).r0 = 2 ∧ (formL x.op).r1 = 3 := fun h => ((by decide : ∀ op ∈ rdBC, (formL op).r0 = 2 ∧ (formL op).r1 = 3) _ (List.contains_iff_mem.1 h))
  have hB : rdB.contains x.op = true → (formL x.op).r0 = 2 := fun h => ((by decide : ∀ op ∈ rdB, (formL op).r0 = 2) _ (List.contains_iff_mem.1 h))
  have hW : (if 0 ≤ writesI x then setR x.a wr else x.a) = if 0 ≤ writesI x then setR x.a wr' else x.a := by
    split
    · rename_i h0
      have e := hw h0
      rw [writes_a h0] at e
      exact setR_congr (fun _ => e)
    · rfl
  unfold replI
  split
  · rename_i h
    rw [setR_congr (fun h0 => hr _ (read_a (hA h) h0))]
  · split
    · rename_i h
      rw [hW, setR_congr (fun h0 => hr _ (read_b (hBC h).1 h0)), setR_congr (f := rd) (g := rd') (y := x.c) (fun h0 => hr _ (read_c (hBC h).2 h0))]
    · split
      · rename_i h
        rw [hW, setR_congr (fun h0 => hr _ (read_b (hB h) h0))]
      · rw [hW]
theorem repl_op (x : InsN) (rd wr : Int → Int) : (replI x rd wr).op = x.op := by
  unfold replI
  split
  · rfl
  · split
    · rfl
    · split <;> rfl
theorem mov_op (t : List Int) (x : InsN) : (movI t x).op = x.op := by
  unfold movI
  split
  · rfl
  · split <;> rfl
theorem mov_a {t : List Int} {x : InsN} (h : x.op ≠ 24) : (movI t x).a = x.a := by
  unfold movI
  rw [if_neg (by simpa using h)]
  split <;> rfl
theorem wr_jump {x : InsN} (h : 0 ≤ writesI x) : x.op ≠ 24 := by
  intro e
  unfold writesI at h
  rw [e, if_pos (by decide)] at h
  omega
/-- The part that is written becomes what the slot that is written becomes. -/
theorem repl_a {x : InsN} {rd wr : Int → Int} (h : 0 ≤ writesI x) : (replI x rd wr).a = wr (writesI x) := by
  have ha := writes_a h
  have hs : setR x.a wr = wr x.a := by
    unfold setR
    rw [if_pos (by omega)]
  have hA : rdA.contains x.op = false := by
    cases hc : rdA.contains x.op with
    | false => rfl
    | true =>
      have := (by decide : ∀ op ∈ rdA, (formL op).wr = 0) _ (List.contains_iff_mem.1 hc)
      unfold writesI at h
      rw [if_pos this] at h
      omega
  unfold replI
  rw [if_neg (by rw [hA]; exact Bool.false_ne_true)]
  split
  · show setR x.a wr = _
    rw [hs, ha]
  · split
    · show setR x.a wr = _
      rw [hs, ha]
    · show setR x.a wr = _
      rw [hs, ha]
/-- The instructions of a group are read. -/
theorem insGo_run {u v : UntN} {h at' : List Int} {m : List (Int × Int)} {behind : List Int} {frm : Nat} {rd wr : Int → Int} : ∀ (n a : Nat),
    (∀ j, j < n → v.code[a + j]? = some (movI at' (replI (u.code.getD (frm + j) ins0) rd wr)) ∧ (j = 0 ∨ at'.getD (frm + j) 0 = ((a + j : Nat) : Int)) ∧
      (∀ s ∈ readsL (u.code.getD (frm + j) ins0), rdChk h m s = some (rd s)) ∧
      (0 ≤ writesI (u.code.getD (frm + j) ins0) → wrChk v h behind (movI at' (replI (u.code.getD (frm + j) ins0) rd wr)) (writesI (u.code.getD (frm + j) ins0)) = some (wr (writesI (u.code.getD (frm + j) ins0))))) →
    insGo u v h at' m behind frm n a = some (a + n)
  | 0, a, _ => rfl
  | n + 1, a, H => by
    unfold insGo
    rw [insGo_run n a (fun j hj => H j (by omega)), Option.bind_some]
    obtain ⟨h1, h2, h3, h4⟩ := H n (by omega)
    unfold insOne
    rw [h1]
    have e : replI (u.code.getD (frm + n) ins0) rd wr = replI (u.code.getD (frm + n) ins0) (fun s => (rdChk h m s).getD 0) (fun s => (wrChk v h behind (movI at' (replI (u.code.getD (frm + n) ins0) rd wr)) s).getD 0) :=
      replI_congr (fun s hs => by rw [h3 s hs]; rfl) (fun h0 => by rw [h4 h0]; rfl)
    dsimp only
    refine (if_pos ⟨?_, ?_, ?_, ?_⟩).trans rfl
    · rcases h2 with h2 | h2
      · exact .inl (by omega)
      · exact .inr h2
    · unfold rdOk
      rw [List.all_eq_true]
      intro s hs
      rw [h3 s hs]
      rfl
    · intro h0
      rw [h4 h0]
      rfl
    · rw [← e]

open Go.RowKit Go.Shelf
section
variable {u : UntN} {k : Nat}
theorem home_at (hw : writB u = true) (k : Nat) {s : Int} (h0 : 0 ≤ s) (h1 : s < u.slots) : HouT u (k - leastN u) (houL u k).cells s.toNat (homeN (houL u k).out s) :=
  (hou_all hw k).one s.toNat (by omega)
theorem home_used (hw : writB u = true) {s : Int} (h0 : 0 ≤ s) (h1 : s < u.slots) (hu : s ∈ usedL u) : (0 ≤ homeN (houL u k).out s ∧ homeN (houL u k).out s < k - leastN u) ∨ homeN (houL u k).out s ≤ -2 := by
  have ha := (writ_args hw).1
  have e : ((s.toNat : Nat) : Int) = s := by omega
  rcases home_at hw k h0 h1 with ⟨h, _⟩ | ⟨_, h | ⟨_, h⟩ | ⟨_, d, h2, h3, h4⟩⟩
  · rw [e] at h; exact absurd hu h
  · exact .inl h
  · exact .inr (by omega)
  · exact .inr (by omega)
theorem home_lt (hw : writB u = true) {s : Int} (h0 : 0 ≤ s) (h1 : s < u.slots) : homeN (houL u k).out s < k - leastN u ∨ homeN (houL u k).out s < 0 := by
  have ha := (writ_args hw).1
  rcases home_at hw k h0 h1 with ⟨_, h⟩ | ⟨_, h | ⟨_, h⟩ | ⟨_, d, h2, h3, h4⟩⟩
  · exact .inr (by omega)
  · exact .inl h.2
  · exact .inr (by omega)
  · exact .inr (by omega)
/-- A cell is the home of one slot. -/
theorem home_uq (hw : writB u = true) {s t : Int} (s0 : 0 ≤ s) (s1 : s < u.slots) (t0 : 0 ≤ t) (t1 : t < u.slots) (h : homeN (houL u k).out s ≤ -2) (e : homeN (houL u k).out s = homeN (houL u k).out t) : s = t := by
  have hq := (hou_all hw k).uq
  unfold homeN at *
  rcases (show s.toNat < t.toNat ∨ s.toNat = t.toNat ∨ t.toNat < s.toNat by omega) with hc | hc | hc
  · exact absurd e (hq _ _ hc (by omega) h)
  · omega
  · exact absurd e.symm (hq _ _ hc (by omega) (by rw [← e]; exact h))
theorem free_mem {h l : List Int} {r : Int} : r ∈ freeL h k l → 0 ≤ r ∧ r < k ∧ takenB h r l = false := by
  unfold freeL
  rw [List.mem_map]
  rintro ⟨n, hn, rfl⟩
  obtain ⟨h1, h2⟩ := List.mem_filter.1 hn
  have := List.mem_range.1 h1
  exact ⟨by show (0 : Int) ≤ (n : Int); omega, by show (n : Int) < _; omega, by simpa using h2⟩
theorem free_nodup (h : List Int) (k : Nat) (l : List Int) : (freeL h k l).Nodup := by
  unfold freeL
  have hn : ((List.range k).filter fun (r : Nat) => !(takenB h r l)).Nodup := List.Pairwise.filter _ List.nodup_range
  exact List.pairwise_map.2 (hn.imp fun hne e => hne (by have e2 : ((_ : Nat) : Int) = ((_ : Nat) : Int) := e; omega))
theorem free_ge (hw : writB u = true) (hk : leastN u ≤ k) {l : List Int} (hl : ∀ x ∈ l, 0 ≤ x ∧ x < u.slots) : leastN u ≤ (freeL (houL u k).out k l).length := by
  unfold freeL
  rw [List.length_map]
  obtain ⟨d, hd⟩ : ∃ d, k = d + leastN u := ⟨k - leastN u, by omega⟩
  have e : List.range k = List.range d ++ (List.range (leastN u)).map (d + ·) := by rw [hd]; exact List.range_add
  have hf : ((List.range (leastN u)).map (d + ·)).filter (fun (r : Nat) => !(takenB (houL u k).out r l)) = (List.range (leastN u)).map (d + ·) := by
    rw [List.filter_eq_self]
    intro r hr
    obtain ⟨j, hj, rfl⟩ := List.mem_map.1 hr
    rw [Bool.not_eq_true']
    unfold takenB
    rw [List.any_eq_false]
    intro s hs e
    have e : homeN (houL u k).out s = ((d + j : Nat) : Int) := by simpa using e
    obtain ⟨s0, s1⟩ := hl s hs
    rcases home_lt (k := k) hw s0 s1 with h | h
    · omega
    · omega
  rw [e, List.filter_append, hf, List.length_append, List.length_map, List.length_range]
  omega
theorem grpReads_nodup (code : List InsN) (i j : Nat) : (grpReads code i j).Nodup := by
  unfold grpReads
  have h : ∀ (l : List InsN) (s : List Int), s.Nodup → (l.foldl (fun l x => addL l (readsL x)) s).Nodup := by
    intro l
    induction l with
    | nil => intro s hs; exact hs
    | cons y l ih => intro s hs; exact ih _ (addL_nodup _ hs)
  exact h _ _ List.nodup_nil
theorem least_ge {g : GrpN} (hg : g ∈ groupsL u) : g.reads.length ≤ leastN u := by
  unfold leastN leastL
  have h : ∀ (l : List GrpN) (n : Nat), n ≤ l.foldl (fun n g => max n g.reads.length) n ∧ ∀ g ∈ l, g.reads.length ≤ l.foldl (fun n g => max n g.reads.length) n := by
    intro l
    induction l with
    | nil => intro n; exact ⟨Nat.le_refl _, fun g hg => by cases hg⟩
    | cons y l ih =>
      intro n
      obtain ⟨h1, h2⟩ := ih (max n y.reads.length)
      rw [List.foldl_cons]
      refine ⟨by omega, fun g hg => ?_⟩
      rcases List.mem_cons.1 hg with rfl | hg
      · omega
      · exact h2 g hg
  exact (h _ _).2 g hg
theorem least_one (u : UntN) : 1 ≤ leastN u := by
  unfold leastN leastL
  have h : ∀ (l : List GrpN) (n : Nat), n ≤ l.foldl (fun n g => max n g.reads.length) n := by
    intro l
    induction l with
    | nil => intro n; exact Nat.le_refl _
    | cons y l ih =>
      intro n
      have := ih (max n y.reads.length)
      rw [List.foldl_cons]
      omega
  exact h _ _
theorem reads_used (hw : writB u = true) {g : GrpN} (hg : g ∈ groupsL u) {s : Int} (hs : s ∈ g.reads) : s ∈ usedL u := by
  rw [(groups_ok hw hg).rq] at hs
  obtain ⟨y, hy, h⟩ := grpReads_mem.1 hs
  exact mem_used.2 (.inr ⟨y, List.mem_of_mem_drop (List.mem_of_mem_take hy), .inl h⟩)
theorem idx_get : ∀ {l : List Int} {s : Int}, s ∈ l → l[l.idxOf s]? = some s
  | y :: l, s, h => by
    rw [List.idxOf_cons]
    cases e : (y == s) with
    | true =>
      have : y = s := by simpa using e
      simp [this]
    | false =>
      have hne : s ≠ y := fun h2 => by simp [h2] at e
      have hm : s ∈ l := by
        rcases List.mem_cons.1 h with h | h
        · exact absurd h hne
        · exact h
      simp only [cond_false, List.getElem?_cons_succ]
      exact idx_get hm
/-- The register that a slot is loaded into. -/
theorem tmp_at {loads temps : List Int} (hl : loads.length ≤ temps.length) {s : Int} (hs : s ∈ loads) : temps[loads.idxOf s]? = some (inTmp loads temps s) := by
  have h := idx_get hs
  have hlt : loads.idxOf s < loads.length := (List.getElem?_eq_some_iff.1 h).1
  unfold inTmp
  rw [List.getD_eq_getElem?_getD, List.getElem?_eq_getElem (show loads.idxOf s < temps.length by omega)]
  rfl
theorem tmp_mem {loads temps : List Int} (hl : loads.length ≤ temps.length) {s : Int} (hs : s ∈ loads) : inTmp loads temps s ∈ temps := List.mem_of_getElem? (tmp_at hl hs)
theorem tmp_inj {loads temps : List Int} (hl : loads.length ≤ temps.length) (hn : temps.Nodup) {s t : Int} (hs : s ∈ loads) (ht : t ∈ loads) (e : inTmp loads temps s = inTmp loads temps t) : s = t := by
  have h1 := tmp_at hl hs
  have h2 := tmp_at hl ht
  rw [e] at h1
  obtain ⟨l1, g1⟩ := List.getElem?_eq_some_iff.1 h1
  obtain ⟨l2, g2⟩ := List.getElem?_eq_some_iff.1 h2
  have e2 : loads.idxOf s = loads.idxOf t := by
    rcases (show loads.idxOf s < loads.idxOf t ∨ loads.idxOf s = loads.idxOf t ∨ loads.idxOf t < loads.idxOf s by omega) with hc | hc | hc
    · exact absurd (g1.trans g2.symm) (List.pairwise_iff_getElem.1 hn _ _ l1 l2 hc)
    · exact hc
    · exact absurd (g2.trans g1.symm) (List.pairwise_iff_getElem.1 hn _ _ l2 l1 hc)
  have k1 := idx_get hs
  have k2 := idx_get ht
  rw [e2, k2] at k1
  exact (Option.some.inj k1).symm
theorem writ_noload (hw : writB u = true) {i : Nat} (hi : i < u.code.length) : (u.code.getD i ins0).op ≠ 33 := by
  have := writ_ops hw _ (List.getElem_mem hi)
  rw [getD_in hi]
  omega
/-- A group that is written is checked. -/
theorem grpChk_ok {v : UntN} (hw : writB u = true) (hk : leastN u ≤ k) {T : List Int} {g : GrpN} (hg : g ∈ groupsL u) {a : Nat} {rest : List InsN} (hvs : v.slots = (k : Int))
    (hd : v.code.drop a = (grpCode u (liveL u) (houL u k).out k g).map (movI T) ++ rest) (hp : PosG (houL u k).out T a g) :
    grpChk u v (liveL u) (houL u k).out T a g = some (a + (grpCode u (liveL u) (houL u k).out k g).length) := by
  have hok := groups_ok hw hg
  have hru : ∀ s ∈ g.reads, s ∈ usedL u := fun s hs => reads_used hw hg hs
  have hplain := writ_plain hw
  have hbeh : ∀ x ∈ grpBehind u (liveL u) g, 0 ≤ x ∧ x < u.slots := fun x hx => need_in hw _ x hx
  have hbus : ∀ x ∈ grpBusy u (liveL u) g, 0 ≤ x ∧ x < u.slots := fun x hx => by
    unfold grpBusy at hx
    rcases addL_mem.1 hx with hx | hx
    · exact live_in hw _ x hx
    · exact hbeh x hx
  have hfr : leastN u ≤ (freeL (houL u k).out k (grpBehind u (liveL u) g)).length := free_ge hw hk hbeh
  have htp : leastN u ≤ (freeL (houL u k).out k (grpBusy u (liveL u) g)).length := free_ge hw hk hbus
  have hrl := least_ge hg
  have hone := least_one u
  have hnd : g.reads.Nodup := by rw [hok.rq]; exact grpReads_nodup _ _ _
  have hld : ∀ s, s ∈ grpLoads (houL u k).out g ↔ s ∈ g.reads ∧ homeN (houL u k).out s ≤ -2 := fun s => by unfold grpLoads; rw [List.mem_filter, decide_eq_true_eq]
  have hldn : (grpLoads (houL u k).out g).Nodup := List.Pairwise.filter _ hnd
  have hldl : (grpLoads (houL u k).out g).length ≤ g.reads.length := List.length_filter_le _ _
  have hat0 := hp.at0
  have hatj := hp.atj
  have hhu : ∀ s, s ∈ g.reads → (0 ≤ homeN (houL u k).out s ∧ homeN (houL u k).out s < k - leastN u) ∨ homeN (houL u k).out s ≤ -2 := fun s hs => home_used hw (hok.rd s hs).1 (hok.rd s hs).2 (hru s hs)
  have huq : ∀ s t, s ∈ g.reads → t ∈ g.reads → homeN (houL u k).out s ≤ -2 → homeN (houL u k).out s = homeN (houL u k).out t → s = t := fun s t hs ht h e => home_uq hw (hok.rd s hs).1 (hok.rd s hs).2 (hok.rd t ht).1 (hok.rd t ht).2 h e
  have hfm : ∀ r, r ∈ freeL (houL u k).out k (grpBehind u (liveL u) g) → 0 ≤ r ∧ r < k ∧ takenB (houL u k).out r (grpBehind u (liveL u) g) = false := fun r hr => free_mem hr
  have htm : ∀ r, r ∈ freeL (houL u k).out k (grpBusy u (liveL u) g) → 0 ≤ r ∧ r < k ∧ takenB (houL u k).out r (grpBusy u (liveL u) g) = false := fun r hr => free_mem hr
  have htn := free_nodup (houL u k).out k (grpBusy u (liveL u) g)
  unfold grpCode at hd ⊢
  unfold grpChk
  rw [if_pos hat0]
  generalize (houL u k).out = H at *
  generalize grpLoads H g = loads at *
  generalize freeL H k (grpBusy u (liveL u) g) = temps at *
  generalize hfre : freeL H k (grpBehind u (liveL u) g) = fr at *
  generalize grpBusy u (liveL u) g = busy at *
  generalize grpBehind u (liveL u) g = behind at *
  have hlt : loads.length ≤ temps.length := by omega
  obtain ⟨f0, hf0⟩ : ∃ f0, fr[0]? = some f0 := ⟨_, List.getElem?_eq_getElem (show 0 < fr.length by omega)⟩
  have hfd : fr.getD 0 0 = f0 := by rw [List.getD_eq_getElem?_getD, hf0]; rfl
  obtain ⟨ff0, ff1, ff2⟩ := hfm f0 (List.mem_of_getElem? hf0)
  -- the code in three parts
  obtain ⟨m, hm⟩ : ∃ m, g.til + 1 - g.frm = m + 1 := ⟨g.til - g.frm, by have := hok.le; omega⟩
  have htil : g.til = g.frm + m := by have := hok.le; omega
  rw [hm] at hd ⊢
  obtain ⟨L2, hL2⟩ : ∃ L2, L2 = (List.range (m + 1)).map (fun j => replI (u.code.getD (g.frm + j) ins0) (rdTo H loads temps) (wrTo H fr)) := ⟨_, rfl⟩
  obtain ⟨L3, hL3⟩ : ∃ L3, L3 = (if 0 ≤ g.wr ∧ homeN H g.wr ≤ -2 then [storeI (-2 - homeN H g.wr) (wrTo H fr g.wr)] else []) := ⟨_, rfl⟩
  rw [← hL2, ← hL3] at hd ⊢
  have hL2l : L2.length = m + 1 := by rw [hL2, List.length_map, List.length_range]
  have hL2a : ∀ j, j < m + 1 → L2[j]? = some (replI (u.code.getD (g.frm + j) ins0) (rdTo H loads temps) (wrTo H fr)) := fun j hj => by
    rw [hL2, List.getElem?_map, List.getElem?_range hj]
    rfl
  have hd1 : v.code.drop a = loads.map (fun s => loadI (inTmp loads temps s) (-2 - homeN H s)) ++ (L2.map (movI T) ++ (L3.map (movI T) ++ rest)) := by
    rw [hd, List.map_append, List.map_append, List.map_map]
    simp only [List.append_assoc]
    rfl
  have hat := drop_at hd1
  have hvl : loads.length < v.code.length + 1 := by
    have e := congrArg List.length hd1
    rw [List.length_drop, List.length_append, List.length_map] at e
    omega
  have hrest : ∀ x r, L2.map (movI T) ++ (L3.map (movI T) ++ rest) = x :: r → x.op ≠ 33 := by
    intro x r e
    have e0 : (L2.map (movI T) ++ (L3.map (movI T) ++ rest))[0]? = some x := by rw [e]; rfl
    rw [List.getElem?_append_left (by rw [List.length_map, hL2l]; omega), List.getElem?_map, hL2a 0 (by omega)] at e0
    have e1 := Option.some.inj e0
    rw [← e1, mov_op, repl_op]
    exact writ_noload hw (by have := hok.lt; have := hok.le; omega)
  rw [ldGo_run hrest loads (v.code.length + 1) a [] [] hd1 hvl (fun s hs => by
    obtain ⟨h1, h2⟩ := (hld s).1 hs
    obtain ⟨t1, t2, t3⟩ := htm _ (tmp_mem hlt hs)
    refine ⟨h1, h2, ?_, t3, fun e => by cases e⟩
    unfold inN
    rw [hvs, Bool.and_eq_true, decide_eq_true_eq, decide_eq_true_eq]
    omega) (List.pairwise_iff_getElem.2 fun i j hi hj hij e => by
      have h1 := tmp_inj hlt htn (List.getElem_mem hi) (List.getElem_mem hj) e
      exact List.pairwise_iff_getElem.1 hldn i j hi hj hij h1)]
  rw [Option.bind_some]
  dsimp only
  rw [List.nil_append]
  obtain ⟨M, hM⟩ : ∃ M, M = loads.flatMap fun s0 => (g.reads.filter fun s => homeN H s == homeN H s0).map fun s => (s, inTmp loads temps s0) := ⟨_, rfl⟩
  rw [← hM]
  have hMm : ∀ x, x ∈ M → x.1 ∈ loads → x.2 = inTmp loads temps x.1 := fun x hx hl1 => by
    rw [hM, List.mem_flatMap] at hx
    obtain ⟨s0, hs0, hx⟩ := hx
    obtain ⟨s, hs, rfl⟩ := List.mem_map.1 hx
    obtain ⟨hs1, hs2⟩ := List.mem_filter.1 hs
    have e : homeN H s = homeN H s0 := by simpa using hs2
    have := huq s s0 hs1 ((hld s0).1 hs0).1 ((hld s).1 hl1).2 e
    show inTmp loads temps s0 = inTmp loads temps s
    rw [this]
  have hMi : ∀ s, s ∈ loads → (s, inTmp loads temps s) ∈ M := fun s hs => by
    rw [hM, List.mem_flatMap]
    exact ⟨s, hs, List.mem_map.2 ⟨s, List.mem_filter.2 ⟨((hld s).1 hs).1, by simp⟩, rfl⟩⟩
  have hrd : ∀ s, s ∈ g.reads → rdChk H M s = some (rdTo H loads temps s) := fun s hs => by
    unfold rdChk rdTo
    rcases hhu s hs with h | h
    · rw [if_pos h.1, if_pos h.1]
    · rw [if_neg (by omega), if_neg (by omega)]
      have hs2 : s ∈ loads := (hld s).2 ⟨hs, h⟩
      exact lastP_of (hMi s hs2) (fun x hx e => by
        have := hMm x hx (by rw [e]; exact hs2)
        rw [this, e])
  have hxa : ∀ j, j < m + 1 → 0 ≤ writesI (u.code.getD (g.frm + j) ins0) → (movI T (replI (u.code.getD (g.frm + j) ins0) (rdTo H loads temps) (wrTo H fr))).a = wrTo H fr (writesI (u.code.getD (g.frm + j) ins0)) := fun j _ h0 => by
    rw [mov_a (by rw [repl_op]; exact wr_jump h0), repl_a h0]
  have hcode : ∀ j, j < m + 1 → v.code[a + loads.length + j]? = some (movI T (replI (u.code.getD (g.frm + j) ins0) (rdTo H loads temps) (wrTo H fr))) := fun j hj => by
    rw [Nat.add_assoc, hat, List.getElem?_append_right (by rw [List.length_map]; omega), List.length_map, Nat.add_sub_cancel_left, List.getElem?_append_left (by rw [List.length_map, hL2l]; exact hj), List.getElem?_map, hL2a j hj]
    rfl
  rw [insGo_run (rd := rdTo H loads temps) (wr := wrTo H fr) (m + 1) (a + loads.length) (fun j hj => by
    refine ⟨hcode j hj, ?_, fun s hs => hrd s (hok.ra (g.frm + j) (by omega) (by omega) s hs), fun h0 => ?_⟩
    · by_cases hj0 : j = 0
      · exact .inl hj0
      · refine .inr ?_
        rw [hatj (g.frm + j) (by omega) (by omega)]
        congr 1
        omega
    · unfold wrChk
      rw [hxa j hj h0]
      unfold wrTo
      by_cases hh : 0 ≤ homeN H (writesI (u.code.getD (g.frm + j) ins0))
      · rw [if_pos hh, if_pos hh]
      · rw [if_neg hh, if_neg hh, hfd, if_pos ?_]
        unfold inN
        rw [hvs, ff2]
        simp only [Bool.not_false, Bool.and_true, Bool.and_eq_true, decide_eq_true_eq]
        omega)]
  rw [Option.bind_some]
  have hwr := hok.wr
  rw [htil] at hwr
  by_cases hst : 0 ≤ g.wr ∧ homeN H g.wr ≤ -2
  · rw [if_pos hst]
    rw [if_pos hst] at hL3
    have h3 : v.code[a + loads.length + (m + 1)]? = some (storeI (-2 - homeN H g.wr) (wrTo H fr g.wr)) := by
      rw [Nat.add_assoc, hat, List.getElem?_append_right (by rw [List.length_map]; omega), List.length_map, Nat.add_sub_cancel_left, List.getElem?_append_right (by rw [List.length_map, hL2l]; exact Nat.le_refl _), List.length_map, hL2l, Nat.sub_self, hL3]
      rfl
    have h4 : (v.code.getD (a + loads.length + (m + 1) - 1) ins0).a = wrTo H fr g.wr := by
      rw [show a + loads.length + (m + 1) - 1 = a + loads.length + m by omega, List.getD_eq_getElem?_getD, hcode m (by omega)]
      show (movI T _).a = _
      rw [hxa m (by omega) (by rw [← hwr]; exact hst.1), ← hwr]
    unfold nxtI
    rw [h4, if_pos h3, hL3]
    simp only [List.length_append, List.length_map, hL2l, List.length_cons, List.length_nil]
    congr 1
    omega
  · rw [if_neg hst]
    rw [if_neg hst] at hL3
    rw [hL3]
    simp only [List.length_append, List.length_map, hL2l, List.length_nil]
    congr 1
    omega
/-- All groups that are written are checked. -/
theorem grpsChk_ok {v : UntN} (hw : writB u = true) (hk : leastN u ≤ k) {T : List Int} (hvs : v.slots = (k : Int)) : ∀ (gs : List GrpN) (a : Nat), (∀ g ∈ gs, g ∈ groupsL u) →
    v.code.drop a = (gs.flatMap (grpCode u (liveL u) (houL u k).out k)).map (movI T) → a ≤ v.code.length → PosL u (liveL u) (houL u k).out k T a gs → grpsChk u v (liveL u) (houL u k).out T gs a = some v.code.length
  | [], a, _, hd, ha, _ => by
    have e := congrArg List.length hd
    rw [List.length_drop] at e
    simp at e
    show some a = some v.code.length
    congr 1
    omega
  | g :: gs, a, hg, hd, ha, hp => by
    rw [List.flatMap_cons, List.map_append] at hd
    unfold grpsChk
    rw [grpChk_ok hw hk (hg g (by simp)) hvs hd hp.1, Option.bind_some]
    have e := congrArg List.length hd
    rw [List.length_drop, List.length_append, List.length_map] at e
    refine grpsChk_ok hw hk hvs gs _ (fun g' hg' => hg g' (by simp [hg'])) ?_ (by omega) hp.2
    rw [← List.drop_drop, hd, List.drop_append_of_le_length (by rw [List.length_map]; exact Nat.le_refl _)]
    have e2 : ((grpCode u (liveL u) (houL u k).out k g).map (movI T)).drop (grpCode u (liveL u) (houL u k).out k g).length = [] := List.drop_eq_nil_of_le (by rw [List.length_map]; exact Nat.le_refl _)
    rw [e2, List.nil_append]
end

open Go.RowKit Go.Shelf
section
variable {u : UntN} {k : Nat}
theorem clB_used {s t : Int} (h : clB (clashL u) s t = true) : s ∈ usedL u ∧ t ∈ usedL u := by
  unfold clB at h
  have hm := clash_used u _ (List.contains_iff_mem.1 h)
  unfold pairP at hm
  simp only at hm
  rcases (show s ≤ t ∨ t ≤ s by omega) with hc | hc
  · rw [show min s t = s by omega, show max s t = t by omega] at hm
    exact hm
  · rw [show min s t = t by omega, show max s t = s by omega] at hm
    exact ⟨hm.2, hm.1⟩
theorem homeN_nat (h : List Int) (s : Nat) : homeN h s = h.getD s 0 := rfl
/-- The homes are right. -/
theorem homOne_ok (hw : writB u = true) {v : UntN} (hvs : v.slots = (k : Int)) (hvf : v.frame = (houL u k).cells) {s : Nat} (hs : s < u.slots.toNat) : homOne v (houL u k).out (clashL u) (usedL u) s = true := by
  have hI := hou_all hw (k : Int)
  have ha := (writ_args hw).1
  have hl1 := least_one u
  have ho := hI.one s hs
  unfold homOne
  rw [homeN_nat]
  rw [Bool.and_eq_true]
  constructor
  · simp only [Bool.or_eq_true, Bool.and_eq_true, Bool.not_eq_true', beq_iff_eq, decide_eq_true_eq, inN, hvs, hvf]
    rcases ho with ⟨h1, h2⟩ | ⟨h1, h | ⟨h2, h3⟩ | ⟨h2, c, h3, h4, h5⟩⟩
    · refine .inl (.inl ⟨h2, ?_⟩)
      cases hc : (usedL u).contains (s : Int) with
      | false => rfl
      | true => exact absurd (List.contains_iff_mem.1 hc) h1
    · exact .inl (.inr (by omega))
    · exact .inr (by have := hI.cel; omega)
    · exact .inr (by omega)
  · rw [List.all_eq_true]
    intro t ht
    have ht := List.mem_range.1 ht
    rw [homeN_nat]
    cases hc : clB (clashL u) s t with
    | false => rfl
    | true =>
      rw [Bool.not_true, Bool.false_or, bne_iff_ne]
      obtain ⟨hu1, hu2⟩ := clB_used hc
      intro e
      by_cases h0 : 0 ≤ (houL u k).out.getD t 0
      · exact hI.ne t s ht hs hc h0 e.symm
      · have h2 := home_used (k := k) hw (s := (t : Int)) (by omega) (by omega) hu2
        rw [homeN_nat] at h2
        exact hI.uq t s ht hs (by omega) e.symm
theorem homArg_ok (hw : writB u = true) {v : UntN} (hvf : v.frame = (houL u k).cells) (l0 : List Int) {i : Nat} (hi : i < u.args.toNat) : homArg v (houL u k).out l0 i = true := by
  have hI := hou_all hw (k : Int)
  have ha := writ_args hw
  have hc := hI.cel
  have hlen := hI.len
  unfold homArg
  rw [if_neg (by omega)]
  simp only [Bool.and_eq_true, decide_eq_true_eq]
  refine ⟨⟨by omega, ?_⟩, ?_⟩
  · rw [List.all_eq_true]
    intro t ht
    have ht := List.mem_range.1 ht
    rw [homeN_nat]
    simp only [Bool.or_eq_true, bne_iff_ne, beq_iff_eq, Bool.not_eq_true']
    by_cases e : (houL u k).out.getD t 0 = -2 - (i : Int)
    · left; right
      obtain ⟨_, h | ⟨h, c, h3, h4, h5⟩⟩ := (hI.one t (by omega)).ge (by omega)
      · omega
      · omega
    · exact .inl (.inl e)
  · rw [homeN_nat]
    simp only [Bool.or_eq_true, decide_eq_true_eq, beq_iff_eq]
    rcases hI.one i (by omega) with ⟨h1, h2⟩ | ⟨h1, h | ⟨h2, h3⟩ | ⟨h2, c, h3, h4, h5⟩⟩
    · exact absurd (arg_used hi) h1
    · exact .inl h.1
    · exact .inr h3
    · omega
theorem fbeq_self (s : ByteArray) : (s == s) = true := by
  rw [beq_toListBytes]
  exact beq_self_eq_true _
theorem homedB_ok (hw : writB u = true) (hk1 : 1 ≤ k) (hks : (k : Int) ≤ u.slots) (hc6 : (wriL u k).code.length ≤ 600) (hcl : (houL u k).cells ≤ 200) : homedB u (regU u k (wriL u k)) (houL u k).out (wriL u k).ats = true := by
  have hI := hou_all hw (k : Int)
  have ha := writ_args hw
  have hlen := hI.len
  have hats := (wri_ok (u := u) k).2.1
  have hcel := hI.cel
  unfold homedB
  simp only [Bool.and_eq_true, decide_eq_true_eq, List.all_eq_true, List.mem_range]
  refine ⟨⟨⟨⟨⟨⟨⟨⟨⟨by omega, by rw [hats]; exact beq_self_eq_true _⟩, fbeq_self _⟩, fbeq_self _⟩, by show (u.args == u.args) = true; exact beq_self_eq_true _⟩, ?_⟩, ?_⟩, ?_⟩, fun s hs => homOne_ok hw rfl rfl (by omega)⟩, fun i hi => homArg_ok hw rfl _ hi⟩
  · unfold inN
    rw [Bool.and_eq_true, decide_eq_true_eq, decide_eq_true_eq]
    exact ⟨by show (1 : Int) ≤ (k : Int); omega, hks⟩
  · unfold inN
    rw [Bool.and_eq_true, decide_eq_true_eq, decide_eq_true_eq]
    exact ⟨by show (0 : Int) ≤ (houL u k).cells; omega, hcl⟩
  · show ((wriL u k).code.map _).length ≤ 600
    rw [List.length_map]
    exact hc6
theorem range_filter_at (p : Nat → Bool) : ∀ (N : Nat) {n : Nat}, n < N → p n = true → ((List.range N).filter p)[((List.range n).filter p).length]? = some n
  | 0, n, h, _ => absurd h (Nat.not_lt_zero n)
  | N + 1, n, h, hp => by
    rw [List.range_succ, List.filter_append]
    by_cases hn : n = N
    · subst hn
      rw [List.getElem?_append_right (Nat.le_refl _), Nat.sub_self]
      simp [hp]
    · have ih := range_filter_at p N (n := n) (by omega) hp
      rw [List.getElem?_append_left (List.getElem?_eq_some_iff.1 ih).1]
      exact ih
/-- The loads of arguments are read. -/
theorem begL_ok {v : UntN} {h : List Int} {N : Nat} {rest : List InsN} {T : List Int} (hc : v.code = (argLoads h N).map (movI T) ++ rest) (hf : v.frame ≠ 0 ∨ N = 0) : ∀ n, n ≤ N → begL v h n = some ((List.range n).filter fun (s : Nat) => decide (0 ≤ homeN h s)).length
  | 0, _ => rfl
  | n + 1, hn => by
    unfold begL
    rw [begL_ok hc hf n (by omega), Option.bind_some]
    have hf : v.frame ≠ 0 := hf.resolve_right (by omega)
    rw [List.range_succ, List.filter_append, List.length_append]
    by_cases hp : 0 ≤ homeN h (n : Int)
    · rw [if_pos ⟨hf, hp⟩]
      have hat := range_filter_at (fun (s : Nat) => decide (0 ≤ homeN h s)) N (n := n) (by omega) (by simpa using hp)
      unfold nxtI
      have hcode : v.code[((List.range n).filter fun (s : Nat) => decide (0 ≤ homeN h s)).length]? = some (loadI (homeN h n) n) := by
        unfold argLoads at hc
        rw [hc, List.getElem?_append_left (by rw [List.length_map, List.length_map]; exact (List.getElem?_eq_some_iff.1 hat).1), List.getElem?_map, List.getElem?_map, hat]
        rfl
      rw [if_pos hcode]
      simp [hp]
    · rw [if_neg (fun e => hp e.2)]
      simp [hp]
/-- The unit that is written stands for the old one. -/
theorem regs_stand (hw : writB u = true) (hk : leastN u ≤ k) (hks : (k : Int) ≤ u.slots) (hc6 : (wriL u k).code.length ≤ 600) (hcl : (houL u k).cells ≤ 200) : chkRegs u (regU u k (wriL u k)) (houL u k).out (wriL u k).ats = 0 := by
  have hl1 := least_one u
  have ha := writ_args hw
  have hcel := (hou_all hw (k : Int)).cel
  obtain ⟨wc, _, wp⟩ := wri_ok (u := u) k
  have hcode : (regU u k (wriL u k)).code = (argLoads (houL u k).out u.args.toNat).map (movI (wriL u k).ats) ++ ((groupsL u).flatMap (grpCode u (liveL u) (houL u k).out k)).map (movI (wriL u k).ats) := by
    show (wriL u k).code.map _ = _
    rw [wc, List.map_append]
  have hbeg := begL_ok (v := regU u k (wriL u k)) (h := (houL u k).out) hcode (by show (houL u k).cells ≠ 0 ∨ u.args.toNat = 0; omega) u.args.toNat (Nat.le_refl _)
  have hlen : ((List.range u.args.toNat).filter fun (s : Nat) => decide (0 ≤ homeN (houL u k).out s)).length = (argLoads (houL u k).out u.args.toNat).length := by unfold argLoads; rw [List.length_map]
  rw [hlen] at hbeg
  have hgr := grpsChk_ok (v := regU u k (wriL u k)) hw hk (T := (wriL u k).ats) rfl (groupsL u) (argLoads (houL u k).out u.args.toNat).length (fun g hg => hg) (by
    rw [hcode, List.drop_append_of_le_length (by rw [List.length_map]; exact Nat.le_refl _)]
    have e : ((argLoads (houL u k).out u.args.toNat).map (movI (wriL u k).ats)).drop (argLoads (houL u k).out u.args.toNat).length = [] := List.drop_eq_nil_of_le (by rw [List.length_map]; exact Nat.le_refl _)
    rw [e, List.nil_append]) (by rw [hcode, List.length_append, List.length_map]; exact Nat.le_add_right ..) wp
  unfold chkRegs
  rw [if_pos hw, if_pos ?_]
  unfold standB
  rw [homedB_ok hw (by omega) hks hc6 hcl, hbeg, Option.bind_some, hgr]
  simp only [Bool.true_and, Bool.and_eq_true]
  refine ⟨by simp, ?_⟩
  unfold grdsB
  rw [decide_eq_true_eq]
  show u.guards.map _ = u.guards.map (grdTo u _ ((wriL u k).code.map _).length)
  rw [List.length_map]
end

open Go.RowKit Go.Shelf
theorem nodup_few {l : List Int} {n : Int} (hn : l.Nodup) (h : ∀ x ∈ l, 0 ≤ x ∧ x < n) (h0 : 0 ≤ n) : (l.length : Int) ≤ n := by
  have h1 := nodup_sub_len hn (m := (List.range n.toNat).map fun (i : Nat) => (i : Int)) (fun x hx => by
    obtain ⟨h2, h3⟩ := h x hx
    exact List.mem_map.2 ⟨x.toNat, List.mem_range.2 (by omega), by show ((x.toNat : Nat) : Int) = x; omega⟩)
  rw [List.length_map, List.length_range] at h1
  omega
section
variable {u : UntN} {k : Nat}
theorem least_le (hw : writB u = true) : (leastN u : Int) ≤ u.slots := by
  have ha := writ_args hw
  have hg : ∀ g ∈ groupsL u, (g.reads.length : Int) ≤ u.slots := fun g hg => by
    have hok := groups_ok hw hg
    exact nodup_few (by rw [hok.rq]; exact grpReads_nodup _ _ _) hok.rd (by omega)
  unfold leastN leastL
  have h : ∀ (l : List GrpN) (n : Nat), (∀ g ∈ l, (g.reads.length : Int) ≤ u.slots) → (n : Int) ≤ u.slots → ((l.foldl (fun n g => max n g.reads.length) n : Nat) : Int) ≤ u.slots := by
    intro l
    induction l with
    | nil => intro n _ h; exact h
    | cons y l ih =>
      intro n h1 h2
      rw [List.foldl_cons]
      exact ih _ (fun g hg => h1 g (by simp [hg])) (by have := h1 y (by simp); omega)
  exact h _ 1 hg (by omega)
theorem live_le (hw : writB u = true) (t : Nat) : (((liveL u).getD t []).length : Int) ≤ u.slots := nodup_few (sorted_nodup ((live_good u).so t)) (live_in hw t) (by have := writ_args hw; omega)
theorem behind_le (hw : writB u = true) {t : Nat} (ht : t < u.code.length) : ((behindL u t).length : Int) ≤ u.slots := by
  have ha := writ_args hw
  unfold behindL
  split
  · rename_i h0
    refine nodup_few (addL_nodup _ (needL_nodup _ _)) (fun x hx => ?_) (by omega)
    rcases addL_mem.1 hx with hx | hx
    · exact need_in hw _ x hx
    · have := writ_writeIn hw ht
      rw [getD_in ht] at h0 hx
      rw [List.mem_singleton.1 hx]
      omega
  · exact nodup_few (needL_nodup _ _) (need_in hw _) (by omega)
theorem press_le (hw : writB u = true) : (pressN u : Int) ≤ u.slots := by
  have ha := writ_args hw
  have h : ∀ t, t ≤ u.code.length → (pressTo u t : Int) ≤ u.slots := by
    intro t
    induction t with
    | zero => intro _; show ((0 : Nat) : Int) ≤ u.slots; omega
    | succ t ih =>
      intro ht
      have h1 := ih (by omega)
      have h2 := live_le hw t
      have h3 := behind_le hw (t := t) (by omega)
      show ((max (max (pressTo u t) ((liveL u).getD t []).length) (behindL u t).length : Nat) : Int) ≤ u.slots
      omega
  exact h _ (Nat.le_refl _)
theorem noteP_sub {l : List (Int × Int)} {s t : Int} {p : Int × Int} (h : p ∈ l) : p ∈ noteP l s t := mem_noteP.2 (.inl h)
theorem foldNote_sub {l : List (Int × Int)} {s : Int} {bs : List Int} {p : Int × Int} (h : p ∈ l) : p ∈ bs.foldl (fun l b => noteP l s b) l := mem_foldNote.2 (.inl h)
theorem args_clash {i t : Nat} (hi : i < u.args.toNat) (ht : t < i) : clB (clashL u) i t = true := by
  have h1 : ∀ n, i < n → pairP (i : Int) (t : Int) ∈ clArgs [] n := by
    intro n
    induction n with
    | zero => intro h; exact absurd h (Nat.not_lt_zero _)
    | succ n ih =>
      intro h
      unfold clArgs
      have hf : ∀ j, (i < n → pairP (i : Int) (t : Int) ∈ (List.range j).foldl (fun l (b : Nat) => noteP l n b) (clArgs [] n)) ∧ (i = n → t < j → pairP (i : Int) (t : Int) ∈ (List.range j).foldl (fun l (b : Nat) => noteP l n b) (clArgs [] n)) := by
        intro j
        induction j with
        | zero => exact ⟨fun h => ih h, fun _ h => absurd h (Nat.not_lt_zero _)⟩
        | succ j ihj =>
          rw [List.range_succ, List.foldl_append]
          refine ⟨fun h => noteP_sub (ihj.1 h), fun e h => ?_⟩
          by_cases htj : t = j
          · subst htj
            subst e
            exact mem_noteP.2 (.inr ⟨by omega, rfl⟩)
          · exact noteP_sub (ihj.2 e (by omega))
      by_cases e : i = n
      · exact (hf n).2 e (by omega)
      · exact (hf n).1 (by omega)
  have h2 : ∀ n, pairP (i : Int) (t : Int) ∈ clLive (clArgs [] u.args.toNat) ((liveL u).getD 0 []) n := by
    intro n
    induction n with
    | zero => exact h1 _ hi
    | succ n ih => exact foldNote_sub ih
  have h3 : ∀ (l : List Nat) (x : List (Int × Int)), pairP (i : Int) (t : Int) ∈ x → pairP (i : Int) (t : Int) ∈ l.foldl (clIns u (liveL u)) x := by
    intro l
    induction l with
    | nil => intro x h; exact h
    | cons y l ih =>
      intro x h
      refine ih _ ?_
      unfold clIns
      split
      · exact foldNote_sub h
      · exact h
  unfold clB
  exact List.contains_iff_mem.2 (h3 _ _ (h2 _))
theorem many_args (hw : writB u = true) : u.args ≤ manyL (colsTo (clashL u) u.slots.toNat) := by
  have ha := writ_args hw
  have hm : ∀ i : Nat, i < u.slots.toNat → (colAt (clashL u) i : Int) < manyL (colsTo (clashL u) u.slots.toNat) := fun i hi => by
    have h := (manyL_ge (l := colsTo (clashL u) u.slots.toNat) (m := 0)).2 ((i : Int), (colN (clashL u) (colsTo (clashL u) i) i : Int)) (colsTo_mem.2 ⟨i, hi, rfl⟩)
    show (colN (clashL u) (colsTo (clashL u) i) i : Int) < manyL (colsTo (clashL u) u.slots.toNat)
    unfold manyL
    omega
  have hn : ((List.range u.args.toNat).map fun i => (colAt (clashL u) i : Int)).Nodup := by
    refine List.pairwise_map.2 (List.pairwise_iff_getElem.2 fun i j hi hj hij e => ?_)
    rw [List.length_range] at hi hj
    simp only [List.getElem_range] at e
    exact colAt_apart hij (args_clash hj hij) (by omega)
  have h0 : 0 ≤ manyL (colsTo (clashL u) u.slots.toNat) := by have := hm 0 (by omega); omega
  have := nodup_few hn (n := manyL (colsTo (clashL u) u.slots.toNat)) (fun x hx => by
    obtain ⟨i, hi, rfl⟩ := List.mem_map.1 hx
    have hi := List.mem_range.1 hi
    exact ⟨by omega, hm i (by omega)⟩) h0
  rw [List.length_map, List.length_range] at this
  omega
theorem grpReads_lenW (code : List InsN) (i j : Nat) : (grpReads code i j).length ≤ 2 * (j + 1 - i) := by
  have h : ∀ (l : List InsN) (s : List Int), (l.foldl (fun l x => addL l (readsL x)) s).length ≤ s.length + 2 * l.length := by
    intro l
    induction l with
    | nil => intro s; simp
    | cons y l ih =>
      intro s
      have h1 := ih (addL s (readsL y))
      have h2 := addL_len s (readsL y)
      have h3 := readsL_len y
      rw [List.foldl_cons, List.length_cons]
      omega
  unfold grpReads
  refine Nat.le_trans (h _ _) ?_
  have : ((code.drop i).take (j + 1 - i)).length ≤ j + 1 - i := by rw [List.length_take]; exact Nat.min_le_left _ _
  simp only [List.length_nil]
  omega
theorem grpCode_len (hw : writB u = true) {g : GrpN} (hg : g ∈ groupsL u) (live : List (List Int)) (h : List Int) (k : Nat) : 1 ≤ (grpCode u live h k g).length ∧ (grpCode u live h k g).length ≤ 4 * (g.til + 1 - g.frm) := by
  have hok := groups_ok hw hg
  have h1 : (grpLoads h g).length ≤ g.reads.length := List.length_filter_le _ _
  have h2 : g.reads.length ≤ 2 * (g.til + 1 - g.frm) := by rw [hok.rq]; exact grpReads_lenW _ _ _
  have hle := hok.le
  unfold grpCode
  rw [List.length_append, List.length_append, List.length_map, List.length_map, List.length_range]
  split
  · simp only [List.length_cons, List.length_nil]; omega
  · simp only [List.length_nil]; omega
theorem grps_len (hw : writB u = true) (live : List (List Int)) (h : List Int) (k : Nat) : ∀ (gs : List GrpN) (i : Nat), (∀ g ∈ gs, g ∈ groupsL u) → GrpsFrom u i gs → i ≤ u.code.length → (gs.flatMap (grpCode u live h k)).length + 4 * i ≤ 4 * u.code.length
  | [], i, _, _, hi => by simp; omega
  | g :: gs, i, hg, ⟨h1, h2, h3, h4⟩, hi => by
    have := grps_len hw live h k gs (g.til + 1) (fun g' hg' => hg g' (by simp [hg'])) h4 (by omega)
    have hl := (grpCode_len hw (hg g (by simp)) live h k).2
    rw [List.flatMap_cons, List.length_append]
    omega
/-- A unit of few instructions is written with few. -/
theorem wri_few (hw : writB u = true) (hc : u.code.length ≤ 60) (hs : u.slots ≤ 20) (k : Nat) : (wriL u k).code.length ≤ 600 ∧ (houL u k).cells ≤ 200 := by
  have ha := writ_args hw
  have hf := (hou_all hw (k : Int)).fin
  have h1 := grps_len hw (liveL u) (houL u k).out k (groupsL u) 0 (fun g hg => hg) (grpsGo_from _ _) (Nat.zero_le _)
  have h2 : (argLoads (houL u k).out u.args.toNat).length ≤ u.args.toNat := by
    unfold argLoads
    rw [List.length_map]
    exact Nat.le_trans (List.length_filter_le _ _) (by rw [List.length_range]; exact Nat.le_refl _)
  refine ⟨?_, by omega⟩
  rw [(wri_ok (u := u) k).1, List.length_append]
  omega
end

open Go.RowKit Go.Shelf
/-- Groups one behind the other, from a place on to the end. -/
def GrpsAll (u : UntN) : Nat → List GrpN → Prop
  | i, [] => u.code.length ≤ i
  | i, g :: gs => g.frm = i ∧ g.frm ≤ g.til ∧ g.til < u.code.length ∧ GrpsAll u (g.til + 1) gs
theorem grpsGo_all {u : UntN} : ∀ (f i : Nat), u.code.length ≤ i + f → GrpsAll u i (grpsGo u.code (firstsL u.code) f i)
  | 0, i, h => h
  | f + 1, i, h => by
    unfold grpsGo
    split
    · rename_i hi
      have hfl : (firstsL u.code).length = u.code.length := fsTo_length u.code u.code.length
      have hge := grpEnd_ge (firstsL u.code) i
      exact ⟨rfl, hge, by rw [← hfl]; exact grpEnd_lt (by rw [hfl]; exact hi), grpsGo_all f _ (by show _ ≤ grpEnd (firstsL u.code) i + 1 + f; omega)⟩
    · rename_i hi
      show u.code.length ≤ i
      omega
section
variable {u : UntN}
theorem grpCode_ge (live : List (List Int)) (h : List Int) (k : Nat) (g : GrpN) : (grpLoads h g).length + (g.til + 1 - g.frm) ≤ (grpCode u live h k g).length := by
  unfold grpCode
  rw [List.length_append, List.length_append, List.length_map, List.length_map, List.length_range]
  omega
/-- The new places lie one behind the other. -/
theorem pos_ok {live : List (List Int)} {h : List Int} {k : Nat} {T : List Int} : ∀ (gs : List GrpN) (i a : Nat), GrpsAll u i gs → PosL u live h k T a gs →
    (∀ j, i ≤ j → j < u.code.length → (a : Int) ≤ T.getD j 0 ∧ T.getD j 0 < ((a + (gs.flatMap (grpCode u live h k)).length : Nat) : Int)) ∧ ∀ j j', i ≤ j → j < j' → j' < u.code.length → T.getD j 0 < T.getD j' 0
  | [], i, a, hg, _ => by
    have hg : u.code.length ≤ i := hg
    exact ⟨fun j h1 h2 => by omega, fun j j' h1 h2 h3 => by omega⟩
  | g :: gs, i, a, ⟨h1, h2, h3, h4⟩, ⟨p1, p2⟩ => by
    obtain ⟨q1, q2⟩ := pos_ok gs (g.til + 1) _ h4 p2
    have hge := grpCode_ge (u := u) live h k g
    have h0 := p1.at0
    have hin : ∀ j, i ≤ j → j ≤ g.til → T.getD j 0 = (a : Int) ∧ j = g.frm ∨ T.getD j 0 = ((a + (grpLoads h g).length + (j - g.frm) : Nat) : Int) ∧ g.frm < j := fun j g1 g2 => by
      by_cases e : j = g.frm
      · exact .inl ⟨by rw [e]; exact h0, e⟩
      · exact .inr ⟨p1.atj j (by omega) g2, by omega⟩
    rw [List.flatMap_cons, List.length_append]
    refine ⟨fun j g1 g2 => ?_, fun j j' g1 g2 g3 => ?_⟩
    · by_cases hj : j ≤ g.til
      · have := hin j g1 hj
        omega
      · have := q1 j (by omega) g2
        omega
    · by_cases hj : j' ≤ g.til
      · have := hin j g1 (by omega)
        have := hin j' (by omega) hj
        omega
      · by_cases hj2 : j ≤ g.til
        · have := hin j g1 hj2
          have := q1 j' (by omega) g3
          omega
        · exact q2 j j' (by omega) g2 g3
theorem places_one {x : InsN} (h : 0 ≤ x.op ∧ x.op ≤ 32) : placesL x = (placeO x).toList := by
  obtain ⟨op, a, b, c⟩ := x
  simp only at h
  rcases op_cases h with rfl | rfl | rfl | rfl | rfl | rfl | rfl | rfl | rfl | rfl | rfl | rfl | rfl | rfl | rfl | rfl | rfl | rfl | rfl | rfl | rfl | rfl | rfl | rfl | rfl | rfl | rfl | rfl | rfl | rfl | rfl | rfl | rfl <;> rfl
theorem place_repl {x : InsN} (rd wr : Int → Int) (h : 0 ≤ x.op ∧ x.op ≤ 32) : placeO (replI x rd wr) = placeO x := by
  obtain ⟨op, a, b, c⟩ := x
  simp only at h
  rcases op_cases h with rfl | rfl | rfl | rfl | rfl | rfl | rfl | rfl | rfl | rfl | rfl | rfl | rfl | rfl | rfl | rfl | rfl | rfl | rfl | rfl | rfl | rfl | rfl | rfl | rfl | rfl | rfl | rfl | rfl | rfl | rfl | rfl | rfl <;> rfl
theorem place_mov (T : List Int) (x : InsN) : placeO (movI T x) = (placeO x).map fun p => T.getD p.toNat 0 := by
  unfold placeO movI
  cases h1 : (x.op == 24) with
  | true => simp [h1]
  | false =>
    cases h2 : (x.op == 25 || x.op == 32) with
    | true => simp [h1, h2]
    | false => simp [h1, h2]
theorem plain_load (n : Nat) (a b : Int) : plainIns n (loadI a b) = true := rfl
theorem plain_store (n : Nat) (a b : Int) : plainIns n (storeI a b) = true := rfl
theorem grpCode_mem {live : List (List Int)} {h : List Int} {k : Nat} {g : GrpN} {x : InsN} (hx : x ∈ grpCode u live h k g) : (∃ a b, x = loadI a b) ∨ (∃ a b, x = storeI a b) ∨ ∃ j rd wr, j < g.til + 1 - g.frm ∧ x = replI (u.code.getD (g.frm + j) ins0) rd wr := by
  unfold grpCode at hx
  rcases List.mem_append.1 hx with hx | hx
  · obtain ⟨s, _, rfl⟩ := List.mem_map.1 hx
    exact .inl ⟨_, _, rfl⟩
  · rcases List.mem_append.1 hx with hx | hx
    · obtain ⟨j, hj, rfl⟩ := List.mem_map.1 hx
      exact .inr (.inr ⟨j, _, _, List.mem_range.1 hj, rfl⟩)
    · split at hx
      · exact .inr (.inl ⟨_, _, List.mem_singleton.1 hx⟩)
      · cases hx
/-- The unit that is written is plain. -/
theorem regU_plain (hw : writB u = true) {k : Nat} (hk2 : k ≤ 200) (hc6 : (wriL u k).code.length ≤ 600) (hcl : (houL u k).cells ≤ 200) : plainB (regU u k (wriL u k)) = true := by
  have hp := writ_plain hw
  have ha := writ_args hw
  have hcel := (hou_all hw (k : Int)).cel
  obtain ⟨wc, _, wp⟩ := wri_ok (u := u) k
  obtain ⟨m1, m2⟩ := pos_ok (groupsL u) 0 _ (grpsGo_all u.code.length 0 (by omega)) wp
  have hl0 : 0 < u.code.length := (plain_leads hp).1
  have hlen : (regU u k (wriL u k)).code.length = (wriL u k).code.length := List.length_map _
  have hn : (wriL u k).code.length = (argLoads (houL u k).out u.args.toNat).length + ((groupsL u).flatMap (grpCode u (liveL u) (houL u k).out k)).length := by rw [wc, List.length_append]
  have hT : ∀ j, j < u.code.length → 0 ≤ (wriL u k).ats.getD j 0 ∧ (wriL u k).ats.getD j 0 < ((wriL u k).code.length : Int) := fun j hj => by
    have := m1 j (Nat.zero_le _) hj
    omega
  have hpos := hT 0 hl0
  unfold plainB
  rw [hlen]
  simp only [Bool.and_eq_true, List.all_eq_true, decide_eq_true_eq]
  refine ⟨⟨⟨⟨⟨?_, ?_⟩, ?_⟩, ?_⟩, fun x hx => ?_⟩, fun g hg => ?_⟩
  · unfold inN
    rw [Bool.and_eq_true, decide_eq_true_eq, decide_eq_true_eq]
    omega
  · show (u.guards.map _).length ≤ 40
    rw [List.length_map]
    exact (plain_leads hp).2.2.1
  · unfold inN
    rw [Bool.and_eq_true, decide_eq_true_eq, decide_eq_true_eq]
    exact ⟨by show (0 : Int) ≤ (k : Int); omega, by show (k : Int) ≤ 200; omega⟩
  · unfold inN
    rw [Bool.and_eq_true, decide_eq_true_eq, decide_eq_true_eq]
    exact ⟨by show (0 : Int) ≤ (houL u k).cells; omega, hcl⟩
  · have hx : x ∈ (wriL u k).code.map (movI (wriL u k).ats) := hx
    obtain ⟨y, hy, rfl⟩ := List.mem_map.1 hx
    rw [wc] at hy
    rcases List.mem_append.1 hy with hy | hy
    · unfold argLoads at hy
      obtain ⟨s, _, rfl⟩ := List.mem_map.1 hy
      exact plain_load _ _ _
    · obtain ⟨g, hg, hy⟩ := List.mem_flatMap.1 hy
      rcases grpCode_mem hy with ⟨a, b, rfl⟩ | ⟨a, b, rfl⟩ | ⟨j, rd, wr, hj, rfl⟩
      · exact plain_load _ _ _
      · exact plain_store _ _ _
      · have hok := groups_ok hw hg
        have hi : g.frm + j < u.code.length := by have := hok.lt; omega
        have ho := writ_ops hw _ (List.getElem_mem hi)
        have hpl := fun p (e : placeO u.code[g.frm + j] = some p) => plain_place hp hi e
        have hpo : opOk u.code[g.frm + j].op = true := by
          have h2 := hp
          simp only [plainB, plainIns, Bool.and_eq_true, List.all_eq_true] at h2
          exact (h2.1.2 _ (List.getElem_mem hi)).1
        rw [getD_in hi]
        generalize u.code[g.frm + j] = z at *
        unfold plainIns
        rw [mov_op, repl_op, hpo, Bool.true_and, places_one (by rw [mov_op, repl_op]; exact ho), place_mov, place_repl _ _ ho, List.all_eq_true]
        intro p hp2
        cases hz : placeO z with
        | none => rw [hz] at hp2; simp at hp2
        | some q =>
          rw [hz] at hp2
          have e : p = (wriL u k).ats.getD q.toNat 0 := by simpa using hp2
          have h3 := hpl q hz
          have h4 := hT q.toNat (by omega)
          rw [e]
          unfold inN
          rw [Bool.and_eq_true, decide_eq_true_eq, decide_eq_true_eq]
          omega
  · have hg : g ∈ u.guards.map (grdTo u (wriL u k).ats (wriL u k).code.length) := hg
    obtain ⟨y, hy, rfl⟩ := List.mem_map.1 hg
    obtain ⟨i, hi, rfl⟩ := List.getElem_of_mem hy
    obtain ⟨b1, b2, b3, b4, b5⟩ := plain_at hp hi
    generalize u.guards[i] = y at *
    have t1 := hT y.frm.toNat (by omega)
    have t2 := hT y.at'.toNat (by omega)
    unfold plainGrd grdTo inN
    simp only [Bool.and_eq_true, decide_eq_true_eq]
    by_cases hlt : y.til < u.code.length
    · rw [if_pos hlt]
      have t3 := hT y.til.toNat (by omega)
      have t4 := m2 y.frm.toNat y.til.toNat (Nat.zero_le _) (by omega) (by omega)
      omega
    · rw [if_neg hlt]
      omega
/-- The slots and the places themselves. -/
def idL (n : Nat) : List Int := (List.range n).map Int.ofNat
theorem idL_at {n j : Nat} (h : j < n) : (idL n).getD j 0 = (j : Int) := by
  unfold idL
  rw [List.getD_eq_getElem?_getD, List.getElem?_map, List.getElem?_range h]
  rfl
theorem idL_home {n : Nat} {s : Int} (h0 : 0 ≤ s) (h1 : s < (n : Int)) : homeN (idL n) s = s := by
  unfold homeN
  rw [idL_at (by omega)]
  omega
theorem repl_id (x : InsN) : replI x id id = x := by
  have hs : ∀ y, setR y id = y := fun y => by unfold setR; split <;> rfl
  have hi : (if 0 ≤ writesI x then x.a else x.a) = x.a := by split <;> rfl
  unfold replI
  simp only [hs, hi]
  split
  · rfl
  · split
    · rfl
    · split <;> rfl
theorem mov_id {n : Nat} {x : InsN} (h : ∀ p, placeO x = some p → 0 ≤ p ∧ p < (n : Int)) : movI (idL n) x = x := by
  unfold placeO at h
  unfold movI
  cases h1 : (x.op == 24) with
  | true =>
    simp only [h1, if_true] at h ⊢
    obtain ⟨e1, e2⟩ := h _ rfl
    rw [idL_at (by omega)]
    obtain ⟨o, a, b, c⟩ := x
    simp only at e1 ⊢
    congr 1
    omega
  | false =>
    cases h2 : (x.op == 25 || x.op == 32) with
    | true =>
      simp only [h1, h2, Bool.false_eq_true, if_false, if_true] at h ⊢
      obtain ⟨e1, e2⟩ := h _ rfl
      rw [idL_at (by omega)]
      obtain ⟨o, a, b, c⟩ := x
      simp only at e1 ⊢
      congr 1
      omega
    | false => simp
theorem idGrp_ok (hw : writB u = true) {g : GrpN} (hg : g ∈ groupsL u) : grpChk u u (liveL u) (idL u.slots.toNat) (idL u.code.length) g.frm g = some (g.til + 1) := by
  have hok := groups_ok hw hg
  have hle := hok.le
  have hlt := hok.lt
  have ha := writ_args hw
  have hh : ∀ s, 0 ≤ s → s < u.slots → homeN (idL u.slots.toNat) s = s := fun s h0 h1 => idL_home h0 (by omega)
  unfold grpChk
  rw [if_pos (idL_at (by omega))]
  have h33 := writ_noload hw (i := g.frm) (by omega)
  rw [getD_in (by omega)] at h33
  have hld : ldGo u (idL u.slots.toNat) g.reads (grpBusy u (liveL u) g) (u.code.length + 1) g.frm [] [] = some (g.frm, []) := by
    unfold ldGo
    rw [List.getElem?_eq_getElem (by omega)]
    simp only [if_pos h33]
  rw [hld, Option.bind_some]
  dsimp only
  rw [insGo_run (rd := id) (wr := id) (g.til + 1 - g.frm) g.frm (fun j hj => by
    have hi : g.frm + j < u.code.length := by omega
    refine ⟨?_, .inr (by rw [idL_at hi]), fun s hs => ?_, fun h0 => ?_⟩
    · rw [repl_id, getD_in hi, mov_id (fun p hp => plain_place (writ_plain hw) hi hp), List.getElem?_eq_getElem hi]
    · rw [getD_in hi] at hs
      obtain ⟨h1, h2⟩ := writ_readIn hw hi s hs
      unfold rdChk
      rw [hh s h1 h2, if_pos h1]
      rfl
    · rw [getD_in hi] at h0 ⊢
      have h2 := (writ_writeIn hw hi).2
      unfold wrChk
      rw [hh _ h0 h2, if_pos h0]
      rfl), Option.bind_some]
  rw [if_neg ?_]
  · congr 1
    omega
  · rintro ⟨h0, h1⟩
    have hwr := hok.wr
    rw [getD_in hlt] at hwr
    have h2 := (writ_writeIn hw hlt).2
    rw [hh g.wr h0 (by rw [hwr]; exact h2)] at h1
    omega
theorem idGrps_ok (hw : writB u = true) : ∀ (gs : List GrpN) (i : Nat), (∀ g ∈ gs, g ∈ groupsL u) → GrpsAll u i gs → i ≤ u.code.length → grpsChk u u (liveL u) (idL u.slots.toNat) (idL u.code.length) gs i = some u.code.length
  | [], i, _, h, hi => by
    have h : u.code.length ≤ i := h
    show some i = _
    congr 1
    omega
  | g :: gs, i, hg, ⟨h1, h2, h3, h4⟩, hi => by
    unfold grpsChk
    rw [← h1, idGrp_ok hw (hg g (by simp)), Option.bind_some]
    exact idGrps_ok hw gs _ (fun g' hg' => hg g' (by simp [hg'])) h4 (by omega)
/-- A unit stands for itself. -/
theorem id_stand (hw : writB u = true) : chkRegs u u (idL u.slots.toNat) (idL u.code.length) = 0 := by
  have hp := writ_plain hw
  have ha := writ_args hw
  have hfr : u.frame = 0 := by
    have h := hw
    simp only [writB, Bool.and_eq_true, beq_iff_eq] at h
    exact h.1.1.1.1.2
  have hl : ∀ n, (idL n).length = n := fun n => by unfold idL; rw [List.length_map, List.length_range]
  have hbeg : ∀ n, begL u (idL u.slots.toNat) n = some 0 := by
    intro n
    induction n with
    | zero => rfl
    | succ n ih =>
      unfold begL
      rw [ih, Option.bind_some, if_neg (fun e => e.1 hfr)]
  unfold chkRegs
  rw [if_pos hw, if_pos ?_]
  unfold standB
  rw [hbeg, Option.bind_some, idGrps_ok hw (groupsL u) 0 (fun g hg => hg) (grpsGo_all u.code.length 0 (by omega)) (Nat.zero_le _)]
  simp only [Bool.and_eq_true]
  refine ⟨⟨?_, by simp⟩, ?_⟩
  · unfold homedB
    simp only [Bool.and_eq_true, decide_eq_true_eq, List.all_eq_true, List.mem_range, hl]
    refine ⟨⟨⟨⟨⟨⟨⟨⟨⟨by omega, beq_self_eq_true _⟩, fbeq_self _⟩, fbeq_self _⟩, beq_self_eq_true _⟩, ?_⟩, ?_⟩, (plain_leads hp).2.1⟩, fun s hs => ?_⟩, fun i hi => ?_⟩
    · unfold inN
      rw [Bool.and_eq_true, decide_eq_true_eq, decide_eq_true_eq]
      omega
    · unfold inN
      rw [Bool.and_eq_true, decide_eq_true_eq, decide_eq_true_eq, hfr]
      omega
    · unfold homOne
      rw [idL_home (by omega) (by omega), Bool.and_eq_true]
      constructor
      · simp only [Bool.or_eq_true, Bool.and_eq_true, decide_eq_true_eq, inN]
        exact .inl (.inr (by omega))
      · rw [List.all_eq_true]
        intro t ht
        have ht := List.mem_range.1 ht
        rw [idL_home (by omega) (by omega), Bool.or_eq_true, bne_iff_ne]
        exact .inr (by omega)
    · unfold homArg
      rw [if_pos hfr, idL_home (by omega) (by omega)]
      exact beq_self_eq_true _
  · unfold grdsB
    rw [decide_eq_true_eq]
    refine (List.map_id _).symm.trans (List.map_congr_left fun g hg => ?_)
    obtain ⟨i, hi, rfl⟩ := List.getElem_of_mem hg
    obtain ⟨b1, b2, b3, b4, b5⟩ := plain_at hp hi
    generalize u.guards[i] = y at *
    obtain ⟨f, t, a⟩ := y
    simp only at b1 b2 b3 b4 b5
    unfold grdTo
    simp only [id]
    rw [idL_at (j := f.toNat) (by omega), idL_at (j := a.toNat) (by omega)]
    by_cases hlt : t < u.code.length
    · rw [if_pos hlt, idL_at (j := t.toNat) (by omega)]
      congr 1 <;> omega
    · rw [if_neg hlt]
      congr 1 <;> omega
/-- No loads and stores in a unit that can be written anew. -/
theorem writ_many (hw : writB u = true) : manyN u 33 = 0 ∧ manyN u 34 = 0 := by
  have h : ∀ n : Int, 33 ≤ n → manyN u n = 0 := fun n hn => by
    unfold manyN
    rw [List.length_eq_zero_iff, List.filter_eq_nil_iff]
    intro x hx
    have := writ_ops hw x hx
    unfold opB
    simp only [beq_iff_eq]
    omega
  exact ⟨h 33 (by omega), h 34 (by omega)⟩
end
end Go.Proofs.YtgalekifgnecjaaGreat
