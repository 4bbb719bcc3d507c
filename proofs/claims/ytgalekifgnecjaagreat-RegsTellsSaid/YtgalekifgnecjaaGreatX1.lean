/- The reference's Live, plainly: it is core's. The reference's groups, plainly: they are those of package regs. The reference's Right, plainly: the units that can be written anew. The reference's Press, Clashes and Colours, plainly: they are those of package regs. The groups begin where the reference says. -/
import Derived.Test.YtgalekifgnecjaaGreatW1
namespace Go.Proofs.YtgalekifgnecjaaGreat
open Go.RowKit

open Go.RowKit Go.Shelf
/-- What an instruction's list becomes. -/
def lvJump (L : List (List Int)) (w : Int) (l : List Int) (b : Int) : List Int := addL l ((L.getD b.toNat []).filter fun m => m != w)
def lvGrd (u : UntN) (L : List (List Int)) (t : Nat) : List Int := if (raisesB (u.code.getD t ins0) && decide (0 ≤ guardL u t)) = true then L.getD (u.guards.getD (guardL u t).toNat grd0).at'.toNat [] else []
def lvNow (u : UntN) (L : List (List Int)) (t : Nat) : List Int :=
  addL ((bySelf u t).foldl (lvJump L (writesI (u.code.getD t ins0))) (addL (L.getD t []) (readsL (u.code.getD t ins0)))) (lvGrd u L t)
def lvOne (u : UntN) : Nat → List (List Int) × Bool → List (List Int) × Bool
  | 0, s => s
  | t + 1, s => lvOne u t (if (lvNow u s.1 t).length ≠ (s.1.getD t []).length then (s.1.set t (lvNow u s.1 t), true) else s)
theorem addL_pre : ∀ (m l : List Int), ∃ e, addL l m = l ++ e
  | [], l => ⟨[], by simp [addL]⟩
  | y :: m, l => by
    have h : addL l (y :: m) = addL (if l.contains y = true then l else l ++ [y]) m := rfl
    rw [h]
    obtain ⟨e, he⟩ := addL_pre m (if l.contains y = true then l else l ++ [y])
    rw [he]
    split
    · exact ⟨e, rfl⟩
    · exact ⟨y :: e, by simp⟩
theorem lvFold_pre (L : List (List Int)) (w : Int) : ∀ (bs l : List Int), ∃ e, bs.foldl (lvJump L w) l = l ++ e
  | [], l => ⟨[], by simp⟩
  | b :: bs, l => by
    rw [List.foldl_cons]
    obtain ⟨e1, h1⟩ := addL_pre ((L.getD b.toNat []).filter fun m => m != w) l
    obtain ⟨e2, h2⟩ := lvFold_pre L w bs (lvJump L w l b)
    rw [h2]
    unfold lvJump
    rw [h1]
    exact ⟨e1 ++ e2, by simp⟩
theorem lvNow_pre (u : UntN) (L : List (List Int)) (t : Nat) : ∃ e, lvNow u L t = L.getD t [] ++ e := by
  unfold lvNow
  obtain ⟨e1, h1⟩ := addL_pre (readsL (u.code.getD t ins0)) (L.getD t [])
  obtain ⟨e2, h2⟩ := lvFold_pre L (writesI (u.code.getD t ins0)) (bySelf u t) (addL (L.getD t []) (readsL (u.code.getD t ins0)))
  obtain ⟨e3, h3⟩ := addL_pre (lvGrd u L t) ((bySelf u t).foldl (lvJump L (writesI (u.code.getD t ins0))) (addL (L.getD t []) (readsL (u.code.getD t ins0))))
  rw [h3, h2, h1]
  exact ⟨e1 ++ e2 ++ e3, by simp⟩
theorem mem_lvFold (L : List (List Int)) (w x : Int) : ∀ (bs l : List Int), x ∈ bs.foldl (lvJump L w) l ↔ x ∈ l ∨ ∃ b ∈ bs, x ∈ L.getD b.toNat [] ∧ x ≠ w
  | [], l => by simp
  | b :: bs, l => by
    rw [List.foldl_cons, mem_lvFold L w x bs]
    unfold lvJump
    rw [addL_mem, List.mem_filter]
    simp only [List.mem_cons, exists_eq_or_imp, bne_iff_ne, ne_eq]
    rw [or_assoc]
theorem lvFold_nodup (L : List (List Int)) (w : Int) : ∀ (bs l : List Int), l.Nodup → (bs.foldl (lvJump L w) l).Nodup
  | [], _, h => h
  | b :: bs, l, h => by
    rw [List.foldl_cons]
    exact lvFold_nodup L w bs _ (addL_nodup _ h)
theorem mem_lvNow {u : UntN} {L : List (List Int)} {t : Nat} {x : Int} : x ∈ lvNow u L t ↔ x ∈ L.getD t [] ∨ x ∈ readsL (u.code.getD t ins0) ∨ (∃ b ∈ bySelf u t, x ∈ L.getD b.toNat [] ∧ x ≠ writesI (u.code.getD t ins0)) ∨ x ∈ lvGrd u L t := by
  unfold lvNow
  rw [addL_mem, mem_lvFold, addL_mem]
  simp only [or_assoc]
theorem lvNow_nodup {u : UntN} {L : List (List Int)} {t : Nat} (h : (L.getD t []).Nodup) : (lvNow u L t).Nodup := addL_nodup _ (lvFold_nodup _ _ _ _ (addL_nodup _ h))
theorem op_casesR {op : Int} (h : 1 ≤ op ∧ op ≤ 34) : op = 1 ∨ op = 2 ∨ op = 3 ∨ op = 4 ∨ op = 5 ∨ op = 6 ∨ op = 7 ∨ op = 8 ∨ op = 9 ∨ op = 10 ∨ op = 11 ∨ op = 12 ∨ op = 13 ∨ op = 14 ∨ op = 15 ∨ op = 16 ∨ op = 17 ∨ op = 18 ∨ op = 19 ∨ op = 20 ∨ op = 21 ∨ op = 22 ∨ op = 23 ∨ op = 24 ∨ op = 25 ∨ op = 26 ∨ op = 27 ∨ op = 28 ∨ op = 29 ∨ op = 30 ∨ op = 31 ∨ op = 32 ∨ op = 33 ∨ op = 34 := by omega
/-- What the forms tell is what package regs asks. -/
theorem form_regs {x : InsN} (h : opOk x.op = true) : (formL x.op).en = endsB x ∧ (formL x.op).rs = raisesB x ∧ placesL x = (placeO x).toList := by
  obtain ⟨op, a, b, c⟩ := x
  have h2 : 1 ≤ op ∧ op ≤ 34 := by unfold opOk at h; simpa using h
  clear h
  rcases op_casesR h2 with rfl | rfl | rfl | rfl | rfl | rfl | rfl | rfl | rfl | rfl | rfl | rfl | rfl | rfl | rfl | rfl | rfl | rfl | rfl | rfl | rfl | rfl | rfl | rfl | rfl | rfl | rfl | rfl | rfl | rfl | rfl | rfl | rfl | rfl <;> exact ⟨rfl, rfl, rfl⟩
theorem plain_op {u : UntN} (hp : plainB u = true) {t : Nat} (ht : t < u.code.length) : opOk (u.code.getD t ins0).op = true := by
  unfold plainB at hp
  simp only [Bool.and_eq_true, List.all_eq_true] at hp
  have := hp.1.2 _ (List.getElem_mem ht)
  unfold plainIns at this
  simp only [Bool.and_eq_true] at this
  rw [getD_in ht]
  exact this.1
/-- Where instructions lead: by itself, by a jump, by a guard. -/
theorem leads_split {u : UntN} (hp : plainB u = true) {t : Nat} (ht : t < u.code.length) (L : List (List Int)) (x : Int) :
    (∃ e ∈ leadsL u t, x ∈ L.getD e.1.toNat [] ∧ (e.2 == 2 || x != writesI (u.code.getD t ins0)) = true) ↔ (∃ b ∈ bySelf u t, x ∈ L.getD b.toNat [] ∧ x ≠ writesI (u.code.getD t ins0)) ∨ x ∈ lvGrd u L t := by
  obtain ⟨f1, f2, f3⟩ := form_regs (plain_op hp ht)
  have e : ∀ (Q : Int × Int → Prop), (∃ e ∈ leadsL u t, Q e) ↔ (∃ b ∈ bySelf u t, Q (b, 0) ∨ Q (b, 1)) ∧ False ∨ (∃ e ∈ leadsL u t, Q e) := by
    intro Q
    simp
  clear e
  have hl : leadsL u t = (bsOne u t).map (fun p => (p, 0)) ++ ((placeO (u.code.getD t ins0)).toList).map (fun p => (p, 1)) ++
      (if (raisesB (u.code.getD t ins0) && decide (0 ≤ guardL u t)) = true then [((u.guards.getD (guardL u t).toNat grd0).at', 2)] else []) := by
    unfold leadsL bsOne
    rw [f1, f2, f3]
    split
    · rfl
    · rfl
  rw [hl]
  simp only [List.mem_append, or_and_right, exists_or, List.mem_map]
  have hg : (∃ e, e ∈ (if (raisesB (u.code.getD t ins0) && decide (0 ≤ guardL u t)) = true then [((u.guards.getD (guardL u t).toNat grd0).at', (2 : Int))] else []) ∧ x ∈ L.getD e.1.toNat [] ∧ (e.2 == 2 || x != writesI (u.code.getD t ins0)) = true) ↔ x ∈ lvGrd u L t := by
    unfold lvGrd
    split
    · simp
    · simp
  rw [hg]
  refine or_congr_left ?_
  rw [bySelf_eq]
  simp only [addL_mem, or_and_right, exists_or]
  refine or_congr ?_ ?_
  · constructor
    · rintro ⟨e, ⟨p, h1, rfl⟩, h2, h3⟩
      exact ⟨p, h1, h2, by simpa using h3⟩
    · rintro ⟨p, h1, h2, h3⟩
      exact ⟨(p, 0), ⟨p, h1, rfl⟩, h2, by simpa using h3⟩
  · constructor
    · rintro ⟨e, ⟨p, h1, rfl⟩, h2, h3⟩
      exact ⟨p, h1, h2, by simpa using h3⟩
    · rintro ⟨p, h1, h2, h3⟩
      exact ⟨(p, 1), ⟨p, h1, rfl⟩, h2, by simpa using h3⟩
theorem mem_nowR {u : UntN} (hp : plainB u = true) {t : Nat} (ht : t < u.code.length) {L : List (List Int)} {x : Int} : x ∈ lvNow u L t ↔ x ∈ L.getD t [] ∨ x ∈ nowS u L t := by
  rw [mem_lvNow, mem_nowS, leads_split hp ht]
  constructor
  · rintro (h | h | h | h)
    · exact .inl h
    · exact .inr (.inr h)
    · exact .inr (.inl (.inl h))
    · exact .inr (.inl (.inr h))
  · rintro (h | (h | h) | h)
    · exact .inl h
    · exact .inr (.inr (.inl h))
    · exact .inr (.inr (.inr h))
    · exact .inr (.inl h)
/-- What core's Live tells is closed, and the least such. -/
theorem liveOne_stay {u : UntN} : ∀ (t : Nat) (s : List (List Int)), t ≤ u.code.length → GoodL u s → (liveOne u t (s, false)).2 = false → (liveOne u t (s, false)).1 = s ∧ ∀ k, k < t → (nowS u s k).length = (s.getD k []).length
  | 0, s, _, _, _ => ⟨rfl, fun k h => absurd h (Nat.not_lt_zero k)⟩
  | t + 1, s, ht, hg, h => by
    unfold liveOne at h ⊢
    dsimp only at h ⊢
    by_cases hc : (nowS u s t).length ≠ (s.getD t []).length
    · rw [if_pos hc] at h
      have := (liveOne_good (t := t) (s := (s.set t (nowS u s t), true)) (hg.step (by omega)) (by omega)).2.2.1 rfl
      rw [this] at h
      cases h
    · rw [if_neg hc] at h ⊢
      obtain ⟨h1, h2⟩ := liveOne_stay t s (by omega) hg h
      refine ⟨h1, fun k hk => ?_⟩
      by_cases e : k = t
      · subst e; omega
      · exact h2 k (by omega)
theorem nodup_full {l m : List Int} (hl : l.Nodup) (hs : ∀ x ∈ l, x ∈ m) (_hm : m.Nodup) (hn : m.length ≤ l.length) : ∀ x ∈ m, x ∈ l := by
  intro x hx
  by_cases h : x ∈ l
  · exact h
  · have h2 := nodup_sub_len (l := x :: l) (m := m) (List.nodup_cons.2 ⟨h, hl⟩) (fun y hy => by
      rcases List.mem_cons.1 hy with rfl | hy
      · exact hx
      · exact hs y hy)
    rw [List.length_cons] at h2
    omega
theorem liveGo_closed {u : UntN} : ∀ (f : Nat) (s : List (List Int)), GoodL u s → 2 * u.code.length * u.code.length + 1 ≤ f + totalL s → ∀ k, k < u.code.length → ∀ x, x ∈ nowS u (liveGo u f s) k → x ∈ (liveGo u f s).getD k []
  | 0, s, hg, hf => by have := hg.total; omega
  | f + 1, s, hg, hf => by
    obtain ⟨h1, h2, h3, h4⟩ := liveOne_good (s := (s, false)) hg (Nat.le_refl _)
    unfold liveGo
    split
    · rename_i hc
      have := h4 rfl hc
      dsimp only at this
      exact liveGo_closed f _ h1 (by omega)
    · rename_i hc
      obtain ⟨e1, e2⟩ := liveOne_stay u.code.length s (Nat.le_refl _) hg (by simpa using hc)
      rw [e1]
      intro k hk x hx
      exact nodup_full (sorted_nodup (hg.so k)) (hg.inc k hk) (sorted_nodup (sorted_nowS u s k)) (by rw [e2 k hk]; exact Nat.le_refl _) x hx
theorem live_closed (u : UntN) : ∀ k, k < u.code.length → ∀ x, x ∈ nowS u (liveL u) k → x ∈ (liveL u).getD k [] :=
  liveGo_closed _ _ (GoodL.first u) (by omega)
theorem nowS_mono {u : UntN} {s m : List (List Int)} (h : ∀ t x, x ∈ s.getD t [] → x ∈ m.getD t []) (t : Nat) {x : Int} (hx : x ∈ nowS u s t) : x ∈ nowS u m t := by
  rw [mem_nowS] at hx ⊢
  rcases hx with ⟨e, h1, h2, h3⟩ | hx
  · exact .inl ⟨e, h1, h _ _ h2, h3⟩
  · exact .inr hx
theorem liveOne_least {u : UntN} {m : List (List Int)} (hm : ∀ k, k < u.code.length → ∀ x, x ∈ nowS u m k → x ∈ m.getD k []) : ∀ (t : Nat) (s : List (List Int) × Bool), t ≤ u.code.length → s.1.length = u.code.length → (∀ t x, x ∈ s.1.getD t [] → x ∈ m.getD t []) →
    (liveOne u t s).1.length = u.code.length ∧ ∀ k x, x ∈ (liveOne u t s).1.getD k [] → x ∈ m.getD k []
  | 0, s, _, hl, h => ⟨hl, h⟩
  | t + 1, s, ht, hl, h => by
    unfold liveOne
    split
    · refine liveOne_least hm t _ (by omega) (by simpa using hl) fun k x hx => ?_
      dsimp only at hx
      rw [getD_set _ _ _ _ (by omega)] at hx
      split at hx
      · rename_i e; subst e
        exact hm k (by omega) x (nowS_mono h k hx)
      · exact h k x hx
    · exact liveOne_least hm t s (by omega) hl h
theorem liveGo_least {u : UntN} {m : List (List Int)} (hm : ∀ k, k < u.code.length → ∀ x, x ∈ nowS u m k → x ∈ m.getD k []) : ∀ (f : Nat) (s : List (List Int)), s.length = u.code.length → (∀ t x, x ∈ s.getD t [] → x ∈ m.getD t []) → ∀ k x, x ∈ (liveGo u f s).getD k [] → x ∈ m.getD k []
  | 0, s, _, h => h
  | f + 1, s, hl, h => by
    obtain ⟨h1, h2⟩ := liveOne_least hm u.code.length (s, false) (Nat.le_refl _) hl h
    unfold liveGo
    split
    · exact liveGo_least hm f _ h1 h2
    · exact h2
theorem live_least {u : UntN} {m : List (List Int)} (hm : ∀ k, k < u.code.length → ∀ x, x ∈ nowS u m k → x ∈ m.getD k []) : ∀ k x, x ∈ (liveL u).getD k [] → x ∈ m.getD k [] :=
  liveGo_least hm _ _ (by simp) (fun t x hx => by
    rw [List.getD_eq_getElem?_getD] at hx
    by_cases ht : t < u.code.length
    · simp [ht] at hx
    · simp [ht] at hx)
/-- The reference's lists: what is told is needed. -/
structure LvI (u : UntN) (s : List (List Int)) : Prop where
  len : s.length = u.code.length
  nd : ∀ t, (s.getD t []).Nodup
  sub : ∀ t x, x ∈ s.getD t [] → x ∈ (liveL u).getD t []
theorem LvI.first (u : UntN) : LvI u (List.replicate u.code.length []) := by
  have e : ∀ t, (List.replicate u.code.length ([] : List Int)).getD t [] = [] := fun t => by
    rw [List.getD_eq_getElem?_getD, List.getElem?_replicate]
    split <;> rfl
  exact ⟨by simp, fun t => by rw [e]; exact List.nodup_nil, fun t x h => by rw [e] at h; cases h⟩
theorem LvI.step {u : UntN} {s : List (List Int)} (hp : plainB u = true) (h : LvI u s) {t : Nat} (ht : t < u.code.length) : LvI u (s.set t (lvNow u s t)) := by
  have hl := h.len
  refine ⟨by simpa using hl, fun k => ?_, fun k x hx => ?_⟩
  · rw [getD_set _ _ _ _ (by omega)]
    split
    · exact lvNow_nodup (h.nd t)
    · exact h.nd k
  · rw [getD_set _ _ _ _ (by omega)] at hx
    split at hx
    · rename_i e; subst e
      rcases (mem_nowR hp ht).1 hx with hx | hx
      · exact h.sub k x hx
      · exact live_closed u k ht x (nowS_mono h.sub k hx)
    · exact h.sub k x hx
theorem LvI.total {u : UntN} {s : List (List Int)} (h : LvI u s) : totalL s ≤ totalL (liveL u) := by
  have hg := (live_good u).len
  have hl := h.len
  have e : ∀ (a b : List (List Int)), a.length = b.length → (∀ t, (a.getD t []).length ≤ (b.getD t []).length) → totalL a ≤ totalL b := by
    intro a
    induction a with
    | nil => intro b _ _; exact Nat.zero_le _
    | cons x a ih =>
      intro b hb hle
      cases b with
      | nil => cases hb
      | cons y b =>
        have h0 := hle 0
        have h1 := ih b (by simpa using hb) (fun t => hle (t + 1))
        rw [totalL_cons, totalL_cons]
        simp only [List.getD_cons_zero] at h0
        omega
  exact e s (liveL u) (by omega) (fun t => nodup_sub_len (h.nd t) (h.sub t))
theorem lvNow_grow {u : UntN} {s : List (List Int)} {t : Nat} (ht : t < s.length) (hne : (lvNow u s t).length ≠ (s.getD t []).length) : totalL s + 1 ≤ totalL (s.set t (lvNow u s t)) := by
  have h1 := totalL_set s t (lvNow u s t) ht
  obtain ⟨e, he⟩ := lvNow_pre u s t
  have h2 : (lvNow u s t).length = (s.getD t []).length + e.length := by rw [he, List.length_append]
  omega
/-- At the end all is told. -/
theorem LvI.done {u : UntN} {s : List (List Int)} (hp : plainB u = true) (h : LvI u s) (hn : ∀ t, t < u.code.length → (lvNow u s t).length = (s.getD t []).length) (t : Nat) (x : Int) : x ∈ s.getD t [] ↔ x ∈ (liveL u).getD t [] := by
  refine ⟨h.sub t x, fun hx => live_least (m := s) (fun k hk y hy => ?_) t x hx⟩
  obtain ⟨e, he⟩ := lvNow_pre u s k
  have h2 : (lvNow u s k).length = (s.getD k []).length + e.length := by rw [he, List.length_append]
  have h3 := hn k hk
  have h4 : e = [] := List.length_eq_zero_iff.1 (by omega)
  rw [h4, List.append_nil] at he
  rw [← he]
  exact (mem_nowR hp hk).2 (.inr hy)

/-- Where the run of arguments begins. -/
def gsF (code : List InsN) (i : Nat) : Int := (i : Int) - 1 - (code.getD (i - 1) ins0).a
def gsRun (code : List InsN) (i f : Nat) : Bool := (List.range (i - f)).all fun j => argB (code.getD (f + j) ins0) && (code.getD (f + j) ins0).a == (j : Int)
def gsB (code : List InsN) (i : Nat) : Bool :=
  callB (code.getD i ins0) && decide (0 < i) && argB (code.getD (i - 1) ins0) && decide (0 ≤ gsF code i) && decide (gsF code i < i) && gsRun code i (gsF code i).toNat
def gsStep (code : List InsN) (out : List Int) (i : Nat) : List Int := if gsB code i = true then setMany out (gsF code i).toNat ((gsF code i).toNat : Nat) (i + 1 - (gsF code i).toNat) else out
def gs0 (code : List InsN) : Nat → List Int
  | 0 => List.replicate code.length 0
  | k + 1 => fsOne code (gs0 code k) k
def gsTo (code : List InsN) : Nat → List Int
  | 0 => gs0 code code.length
  | k + 1 => gsStep code (gsTo code k) k
theorem setMany_getD (l : List Int) (a : Nat) (v : Int) : ∀ (n j : Nat), a + n ≤ l.length → (setMany l a v n).getD j 0 = if a ≤ j ∧ j < a + n then v else l.getD j 0
  | 0, j, _ => by rw [if_neg (by omega)]; rfl
  | n + 1, j, h => by
    unfold setMany
    rw [getDI_set _ _ _ _ (by rw [setMany_length]; omega), setMany_getD l a v n j (by omega)]
    by_cases e : j = a + n
    · rw [if_pos e, if_pos (by omega)]
    · rw [if_neg e]
      by_cases e2 : a ≤ j ∧ j < a + n
      · rw [if_pos e2, if_pos (by omega)]
      · rw [if_neg e2, if_neg (by omega)]
theorem grpGo_rise (code : List InsN) (i : Nat) : ∀ n, 0 < grpGo code i n → risingB ((code.drop (i - grpGo code i n)).take (grpGo code i n)) = true
  | 0, h => absurd h (Nat.lt_irrefl 0)
  | n + 1, h => by
    unfold grpGo at h ⊢
    split at h
    · rename_i hc; rw [if_pos hc]; exact hc
    · rename_i hc; rw [if_neg hc]; exact grpGo_rise code i n h
theorem grpGo_max (code : List InsN) (i : Nat) : ∀ n m, 0 < m → m ≤ n → risingB ((code.drop (i - m)).take m) = true → m ≤ grpGo code i n
  | 0, m, h0, h, _ => by omega
  | n + 1, m, h0, h, hr => by
    unfold grpGo
    split
    · exact h
    · rename_i hc
      refine grpGo_max code i n m h0 ?_ hr
      rcases (show m ≤ n ∨ m = n + 1 by omega) with e | e
      · exact e
      · subst e; exact absurd hr hc
theorem rising_at {code : List InsN} {i m : Nat} (hi : i ≤ code.length) (hm : m ≤ i) : risingB ((code.drop (i - m)).take m) = true ↔ ∀ j, j < m → (code.getD (i - m + j) ins0).a = (j : Int) := by
  have hl : ((code.drop (i - m)).take m).length = m := by rw [List.length_take, List.length_drop]; omega
  have hg : ∀ j, j < m → ((code.drop (i - m)).take m).getD j ins0 = code.getD (i - m + j) ins0 := fun j hj => by
    simp only [List.getD_eq_getElem?_getD, List.getElem?_take, List.getElem?_drop, if_pos hj]
  unfold risingB
  rw [hl, List.all_eq_true]
  constructor
  · intro h j hj
    have := h j (List.mem_range.2 hj)
    rw [hg j hj] at this
    simpa using this
  · intro h j hj
    have hj := List.mem_range.1 hj
    rw [hg j hj, h j hj]
    simp
theorem run_args {code : List InsN} {i : Nat} (hi : i ≤ code.length) {j : Nat} (h1 : i - runN code i ≤ j) (h2 : j < i) : argB (code.getD j ins0) = true := by
  have hle := runN_le hi
  have h := (runN_iff (r := i - j - 1) hi (by omega) (by omega)).2 (by omega)
  rw [getD_in (by omega)]
  have e : i - (i - j - 1) - 1 = j := by omega
  simp only [e] at h
  exact h
theorem run_ge {code : List InsN} {i : Nat} (hi : i ≤ code.length) : ∀ m, m ≤ i → (∀ j, i - m ≤ j → j < i → argB (code.getD j ins0) = true) → m ≤ runN code i
  | 0, _, _ => Nat.zero_le _
  | m + 1, hm, h => by
    have ih := run_ge hi m (by omega) (fun j h1 h2 => h j (by omega) h2)
    have h3 := h (i - m - 1) (by omega) (by omega)
    rw [getD_in (by omega)] at h3
    have := (runN_iff hi ih (by omega)).1 h3
    omega
/-- The run that the reference looks for is the one that package regs finds. -/
theorem gs_iff {code : List InsN} {i : Nat} (hi : i ≤ code.length) : (gsB code i = true ↔ callB (code.getD i ins0) = true ∧ 0 < grpN code i) ∧ (gsB code i = true → (gsF code i).toNat = i - grpN code i ∧ grpN code i ≤ i) := by
  have hle := runN_le hi
  have hgl : grpN code i ≤ runN code i := grpGo_le code i _
  have hkey : gsB code i = true → callB (code.getD i ins0) = true ∧ 0 < grpN code i ∧ (gsF code i).toNat = i - grpN code i := by
    intro h
    unfold gsB at h
    simp only [Bool.and_eq_true, decide_eq_true_eq] at h
    obtain ⟨⟨⟨⟨⟨h1, h2⟩, h3⟩, h4⟩, h5⟩, h6⟩ := h
    unfold gsRun at h6
    rw [List.all_eq_true] at h6
    obtain ⟨f, hf⟩ : ∃ f : Nat, gsF code i = (f : Int) := ⟨(gsF code i).toNat, by omega⟩
    rw [hf] at h6 h5 ⊢
    simp only [Int.toNat_natCast] at h6 ⊢
    have hfi : f < i := by omega
    have h7 : ∀ j, j < i - f → argB (code.getD (f + j) ins0) = true ∧ (code.getD (f + j) ins0).a = (j : Int) := fun j hj => by
      have := h6 j (List.mem_range.2 hj)
      simpa using this
    have hrun : i - f ≤ runN code i := run_ge hi _ (by omega) (fun j g1 g2 => by
      have := (h7 (j - f) (by omega)).1
      rwa [show f + (j - f) = j by omega] at this)
    have hris : risingB ((code.drop (i - (i - f))).take (i - f)) = true := (rising_at hi (by omega)).2 (fun j hj => by
      have := (h7 j hj).2
      rwa [show i - (i - f) + j = f + j by omega])
    have hmax : i - f ≤ grpN code i := grpGo_max code i _ _ (by omega) hrun hris
    have hr2 := (rising_at (m := grpN code i) hi (by omega)).1 (grpGo_rise code i (runN code i) (show 0 < grpN code i by omega)) (grpN code i - 1) (by omega)
    have hr3 := (h7 (i - f - 1) (by omega)).2
    rw [show i - grpN code i + (grpN code i - 1) = i - 1 by omega] at hr2
    rw [show f + (i - f - 1) = i - 1 by omega] at hr3
    exact ⟨h1, by omega, by omega⟩
  refine ⟨⟨fun h => ⟨(hkey h).1, (hkey h).2.1⟩, fun ⟨h1, h2⟩ => ?_⟩, fun h => ⟨(hkey h).2.2, by omega⟩⟩
  obtain ⟨m, hm⟩ : ∃ m, grpN code i = m := ⟨_, rfl⟩
  have hris := grpGo_rise code i (runN code i) h2
  rw [show grpGo code i (runN code i) = m from hm] at hris
  have hat := (rising_at (m := m) hi (by omega)).1 hris
  have ha := hat (m - 1) (by omega)
  rw [show i - m + (m - 1) = i - 1 by omega] at ha
  have hf : gsF code i = ((i - m : Nat) : Int) := by unfold gsF; rw [ha]; omega
  unfold gsB
  rw [hf]
  simp only [Bool.and_eq_true, decide_eq_true_eq, Int.toNat_natCast]
  refine ⟨⟨⟨⟨⟨h1, by omega⟩, run_args hi (by omega) (by omega)⟩, by omega⟩, by omega⟩, ?_⟩
  unfold gsRun
  rw [List.all_eq_true]
  intro j hj
  have hj := List.mem_range.1 hj
  rw [run_args hi (by omega) (by omega), hat j (by omega)]
  simp
theorem gs0_length (code : List InsN) : ∀ k, (gs0 code k).length = code.length
  | 0 => by simp [gs0]
  | k + 1 => by unfold gs0; rw [fsOne_length, gs0_length code k]
theorem gs0_at (code : List InsN) : ∀ (k j : Nat), k ≤ code.length → (gs0 code k).getD j 0 = if j < k then (if argB (code.getD j ins0) = true then -1 else (j : Int)) else 0
  | 0, j, _ => by
    rw [if_neg (by omega)]
    unfold gs0
    rw [List.getD_eq_getElem?_getD, List.getElem?_replicate]
    split <;> rfl
  | k + 1, j, h => by
    unfold gs0 fsOne
    rw [getDI_set _ _ _ _ (by rw [gs0_length]; omega), gs0_at code k j (by omega)]
    by_cases e : j = k
    · subst e; rw [if_pos rfl, if_pos (show j < j + 1 by omega)]
    · rw [if_neg e]
      by_cases e2 : j < k
      · rw [if_pos e2, if_pos (show j < k + 1 by omega)]
      · rw [if_neg e2, if_neg (show ¬ j < k + 1 by omega)]
theorem gsStep_length (code : List InsN) (l : List Int) (i : Nat) : (gsStep code l i).length = l.length := by
  unfold gsStep
  split
  · rw [setMany_length]
  · rfl
theorem gsTo_length (code : List InsN) : ∀ k, (gsTo code k).length = code.length
  | 0 => gs0_length code _
  | k + 1 => by unfold gsTo; rw [gsStep_length, gsTo_length code k]
theorem gs_to (code : List InsN) : ∀ (k j : Nat), k ≤ code.length → j < code.length → (gsTo code k).getD j 0 = if j < k then (fsTo code k).getD j 0 else (if argB (code.getD j ins0) = true then -1 else (j : Int))
  | 0, j, _, hj => by
    rw [if_neg (by omega)]
    unfold gsTo
    rw [gs0_at _ _ _ (Nat.le_refl _), if_pos hj]
  | k + 1, j, h, hj => by
    obtain ⟨hiff, hF⟩ := gs_iff (code := code) (i := k) (by omega)
    have hfl := fsTo_length code k
    have ih := gs_to code k j (by omega) hj
    have e1 : (fsOne code (fsTo code k) k).getD j 0 = if j = k then (if argB (code.getD k ins0) = true then -1 else (k : Int)) else (fsTo code k).getD j 0 := by
      unfold fsOne
      rw [getDI_set _ _ _ _ (by omega)]
    have hbase : (gsTo code k).getD j 0 = if j < k + 1 then (fsOne code (fsTo code k) k).getD j 0 else (if argB (code.getD j ins0) = true then -1 else (j : Int)) := by
      rw [ih, e1]
      by_cases e : j = k
      · subst e; simp
      · by_cases e2 : j < k
        · rw [if_pos e2, if_pos (show j < k + 1 by omega), if_neg e]
        · rw [if_neg e2, if_neg (show ¬ j < k + 1 by omega)]
    unfold gsTo gsStep
    rw [show fsTo code (k + 1) = fsStep code (fsTo code k) k from rfl]
    unfold fsStep
    by_cases hb : gsB code k = true
    · obtain ⟨f1, f2⟩ := hF hb
      have hg0 := (hiff.1 hb).2
      rw [if_pos hb, if_pos (hiff.1 hb), f1, show k + 1 - (k - grpN code k) = grpN code k + 1 by omega]
      rw [setMany_getD _ _ _ _ _ (by rw [gsTo_length]; omega), setMany_getD _ _ _ _ _ (by rw [fsOne_length]; omega), hbase]
      by_cases e : k - grpN code k ≤ j ∧ j < k - grpN code k + (grpN code k + 1)
      · rw [if_pos e, if_pos e, if_pos (by omega)]
      · rw [if_neg e, if_neg e]
    · rw [if_neg hb, if_neg (fun e => hb (hiff.2 e)), hbase]
theorem gs_firsts (code : List InsN) : gsTo code code.length = firstsL code := by
  refine List.ext_getElem (by rw [gsTo_length]; unfold firstsL; rw [fsTo_length]) fun j h1 h2 => ?_
  have hj : j < code.length := by rwa [gsTo_length] at h1
  have := gs_to code code.length j (Nat.le_refl _) hj
  rw [if_pos hj, getD_in h1] at this
  rw [this]
  exact getD_in h2

theorem fs_le (code : List InsN) : ∀ (k j : Nat), k ≤ code.length → j < code.length → (fsTo code k).getD j 0 ≤ j
  | 0, j, _, _ => by
    unfold fsTo
    rw [List.getD_eq_getElem?_getD, List.getElem?_replicate]
    split
    · show (0 : Int) ≤ j; omega
    · show (0 : Int) ≤ j; omega
  | k + 1, j, h, hj => by
    have ih := fs_le code k j (by omega) hj
    have hl := fsTo_length code k
    have e1 : (fsOne code (fsTo code k) k).getD j 0 ≤ j := by
      unfold fsOne
      rw [getDI_set _ _ _ _ (by omega)]
      split
      · rename_i e; subst e
        split
        · omega
        · exact Int.le_refl _
      · exact ih
    rw [show fsTo code (k + 1) = fsStep code (fsTo code k) k from rfl]
    unfold fsStep
    split
    · have hg : grpN code k ≤ k := Nat.le_trans (grpGo_le code k _) (runN_le (by omega))
      rw [setMany_getD _ _ _ _ _ (by rw [fsOne_length]; omega)]
      split
      · omega
      · exact e1
    · exact e1
def ledOne (u : UntN) (p : Int) (i : Nat) : Bool :=
  (match placeO (u.code.getD i ins0) with | some q => q == p | none => false) || (raisesB (u.code.getD i ins0) && decide (0 ≤ guardL u i) && (u.guards.getD (guardL u i).toNat grd0).at' == p)
def ledB (u : UntN) (p : Int) : Bool := (List.range u.code.length).any (ledOne u p)
def rightIns (u : UntN) (g : List Int) (k : Nat) : Bool :=
  !((u.code.getD k ins0).op == 33) && !((u.code.getD k ins0).op == 34) && !decide (g.getD k 0 < 0) && (readsL (u.code.getD k ins0)).all (fun s => inN s 0 (u.slots - 1)) &&
  (writesI (u.code.getD k ins0) == -1 || inN (writesI (u.code.getD k ins0)) 0 (u.slots - 1)) && !(decide (g.getD k 0 < (k : Int)) && ledB u k)
def rightB (u : UntN) : Bool :=
  plainB u && u.frame == 0 && decide (1 ≤ u.slots) && inN u.args 0 u.slots && (List.range u.code.length).all (rightIns u (firstsL u.code)) && endsB (u.code.getD (u.code.length - 1) ins0)
theorem guardL_lt {u : UntN} {k : Int} (h : 0 ≤ guardL u k) : (guardL u k).toNat < u.guards.length := by
  have := idxP_lt (guardIn k) u.guards
  unfold guardL at *
  omega
/-- The units that the reference takes are those that can be written anew. -/
theorem right_writ (u : UntN) : rightB u = writB u := by
  rw [Bool.eq_iff_iff]
  have hfl : (firstsL u.code).length = u.code.length := fsTo_length _ _
  unfold rightB writB
  simp only [Bool.and_eq_true, List.all_eq_true, List.mem_range]
  constructor
  · rintro ⟨⟨⟨⟨⟨h1, h2⟩, h3⟩, h4⟩, h5⟩, h6⟩
    refine ⟨⟨⟨⟨⟨h1, h2⟩, h3⟩, h4⟩, h6⟩, fun k hk => ?_⟩
    have hR := h5 k hk
    have hno : ∀ p : Nat, p < u.code.length → ledB u p = true → innerB (firstsL u.code) p = false := fun p hp hl => by
      have h := h5 p hp
      unfold rightIns at h
      simp only [Bool.and_eq_true, Bool.not_eq_true', Bool.and_eq_false_iff, decide_eq_false_iff_not] at h
      have hle := fs_le u.code u.code.length p (Nat.le_refl _) hp
      have hle : (firstsL u.code).getD p 0 ≤ p := hle
      unfold innerB
      rcases h.2 with h | h
      · have : (firstsL u.code).getD (p : Int).toNat 0 = (p : Int) := by rw [Int.toNat_natCast]; omega
        rw [this]; simp
      · rw [hl] at h; cases h
    unfold rightIns at hR
    simp only [Bool.and_eq_true] at hR
    obtain ⟨⟨⟨⟨⟨r1, r2⟩, r3⟩, r4⟩, r5⟩, r6⟩ := hR
    unfold writIns
    simp only [Bool.and_eq_true]
    refine ⟨⟨⟨⟨⟨⟨r4, r5⟩, r3⟩, r1⟩, r2⟩, ?_⟩, ?_⟩
    · cases hp : placeO (u.code.getD k ins0) with
      | none => rfl
      | some p =>
        have hin := plain_place h1 hk (by rw [← getD_in hk]; exact hp)
        have h := hno p.toNat (by omega) (by
          unfold ledB
          rw [List.any_eq_true]
          refine ⟨k, List.mem_range.2 hk, ?_⟩
          unfold ledOne
          rw [hp, Bool.or_eq_true]
          exact .inl (by simp; omega))
        rw [show ((p.toNat : Nat) : Int) = p by omega] at h
        simp [h]
    · rw [Bool.not_eq_true']
      cases hc : (decide (0 ≤ guardL u k) && raisesB (u.code.getD k ins0)) with
      | false => rfl
      | true =>
        rw [Bool.true_and]
        simp only [Bool.and_eq_true, decide_eq_true_eq] at hc
        have hgl := guardL_lt hc.1
        have hat := plain_at h1 hgl
        rw [← getD_in (d := grd0) hgl] at hat
        have h := hno (u.guards.getD (guardL u k).toNat grd0).at'.toNat (by omega) (by
          unfold ledB
          rw [List.any_eq_true]
          refine ⟨k, List.mem_range.2 hk, ?_⟩
          unfold ledOne
          rw [Bool.or_eq_true]
          refine .inr ?_
          simp only [Bool.and_eq_true, decide_eq_true_eq, beq_iff_eq]
          exact ⟨⟨hc.2, hc.1⟩, by omega⟩)
        rwa [show (((u.guards.getD (guardL u k).toNat grd0).at'.toNat : Nat) : Int) = (u.guards.getD (guardL u k).toNat grd0).at' by omega] at h
  · rintro ⟨⟨⟨⟨⟨h1, h2⟩, h3⟩, h4⟩, h6⟩, h5⟩
    refine ⟨⟨⟨⟨⟨h1, h2⟩, h3⟩, h4⟩, fun k hk => ?_⟩, h6⟩
    have hR := h5 k hk
    unfold writIns at hR
    simp only [Bool.and_eq_true] at hR
    obtain ⟨⟨⟨⟨⟨⟨r4, r5⟩, r3⟩, r1⟩, r2⟩, _⟩, _⟩ := hR
    unfold rightIns
    simp only [Bool.and_eq_true]
    refine ⟨⟨⟨⟨⟨r1, r2⟩, r3⟩, r4⟩, r5⟩, ?_⟩
    rw [Bool.not_eq_true', Bool.and_eq_false_iff, decide_eq_false_iff_not]
    cases hl : ledB u k with
    | false => exact .inr rfl
    | true =>
      refine .inl ?_
      unfold ledB at hl
      rw [List.any_eq_true] at hl
      obtain ⟨i, hi, hl⟩ := hl
      have hi := List.mem_range.1 hi
      have hW := h5 i hi
      unfold writIns at hW
      simp only [Bool.and_eq_true] at hW
      unfold ledOne at hl
      rw [Bool.or_eq_true] at hl
      have hdone : innerB (firstsL u.code) k = false → ¬ (firstsL u.code).getD k 0 < (k : Int) := fun h => by
        unfold innerB at h
        rw [Int.toNat_natCast] at h
        have : (firstsL u.code).getD k 0 = (k : Int) := by simpa using h
        omega
      rcases hl with hl | hl
      · have h := hW.1.2
        cases hp : placeO (u.code.getD i ins0) with
        | none => rw [hp] at hl; cases hl
        | some p =>
          rw [hp] at hl h
          have e : p = (k : Int) := by simpa using hl
          subst e
          exact hdone (by simpa using h)
      · have h := hW.2
        simp only [Bool.and_eq_true, decide_eq_true_eq, beq_iff_eq] at hl
        rw [hl.2, hl.1.1, decide_eq_true hl.1.2] at h
        exact hdone (by simpa using h)

/-- Where an instruction leads by itself. -/
def nextsR (x : InsN) (t : Nat) : List Int :=
  if x.op = 24 then [x.a] else if x.op = 26 ∨ x.op = 27 ∨ x.op = 28 then [] else if x.op = 25 ∨ x.op = 32 then [(t : Int) + 1, x.b] else [(t : Int) + 1]
def putAll (s l : List Int) : List Int := l.foldl (fun s n => insS n s) s
/-- What is needed behind an instruction, in order. -/
def behindR (u : UntN) (live : List (List Int)) (t : Nat) : List Int := (nextsR (u.code.getD t ins0) t).foldl (fun s p => putAll s (live.getD p.toNat [])) []
def afterR (u : UntN) (live : List (List Int)) (t : Nat) : List Int :=
  if (raisesB (u.code.getD t ins0) && decide (0 ≤ guardL u t)) = true then putAll (behindR u live t) (live.getD (u.guards.getD (guardL u t).toNat grd0).at'.toNat []) else behindR u live t
theorem mem_putAll {s l : List Int} {x : Int} : x ∈ putAll s l ↔ x ∈ s ∨ x ∈ l := mem_foldIns
theorem sorted_putAll {s l : List Int} (h : SortedL s) : SortedL (putAll s l) := sorted_foldIns h
theorem mem_foldPut (live : List (List Int)) (x : Int) : ∀ (ps s : List Int), x ∈ ps.foldl (fun s p => putAll s (live.getD p.toNat [])) s ↔ x ∈ s ∨ ∃ p ∈ ps, x ∈ live.getD p.toNat []
  | [], s => by simp
  | p :: ps, s => by
    rw [List.foldl_cons, mem_foldPut live x ps, mem_putAll]
    simp only [List.mem_cons, exists_eq_or_imp, or_assoc]
theorem sorted_foldPut (live : List (List Int)) : ∀ (ps : List Int) {s : List Int}, SortedL s → SortedL (ps.foldl (fun s p => putAll s (live.getD p.toNat [])) s)
  | [], _, h => h
  | p :: ps, s, h => by
    rw [List.foldl_cons]
    exact sorted_foldPut live ps (sorted_putAll h)
theorem behindR_sorted (u : UntN) (live : List (List Int)) (t : Nat) : SortedL (behindR u live t) := sorted_foldPut live _ .nil
/-- An instruction that can be written anew leads where package regs says. -/
theorem nexts_mem {u : UntN} (hw : writB u = true) {t : Nat} (ht : t < u.code.length) (p : Int) : p ∈ nextsR (u.code.getD t ins0) t ↔ p ∈ bySelf u t := by
  have hl : endsB (u.code.getD (u.code.length - 1) ins0) = true := by
    unfold writB at hw
    simp only [Bool.and_eq_true] at hw
    exact hw.1.2
  have hend : endsB (u.code.getD t ins0) = false → t + 1 < u.code.length := fun h => by
    by_cases e : t + 1 < u.code.length
    · exact e
    · rw [show u.code.length - 1 = t by omega, h] at hl
      cases hl
  rw [bySelf_eq, addL_mem]
  unfold bsOne
  generalize u.code.getD t ins0 = x at *
  obtain ⟨op, a, b, c⟩ := x
  unfold nextsR placeO
  unfold endsB at hend ⊢
  simp only at hend ⊢
  by_cases h1 : op = 24
  · subst h1; simp
  · by_cases h2 : op = 26 ∨ op = 27 ∨ op = 28
    · have h3 : op ≠ 25 ∧ op ≠ 32 := by omega
      rw [if_neg h1, if_pos h2]
      rcases h2 with rfl | rfl | rfl <;> simp
    · have hno : (op == 24 || op == 26 || op == 27 || op == 28) = false := by
        simp only [Bool.or_eq_false_iff, beq_eq_false_iff_ne, ne_eq]
        omega
      have hlt := hend hno
      rw [if_neg h1, if_neg h2, hno]
      by_cases h3 : op = 25 ∨ op = 32
      · rw [if_pos h3]
        rcases h3 with rfl | rfl <;> simp [hlt]
      · rw [if_neg h3]
        have e1 : (op == 24) = false := by simpa using h1
        have e2 : (op == 25 || op == 32) = false := by
          simp only [Bool.or_eq_false_iff, beq_eq_false_iff_ne, ne_eq]; omega
        simp [hlt, e1, e2]
theorem behindR_mem {u : UntN} (hw : writB u = true) {t : Nat} (ht : t < u.code.length) (live : List (List Int)) (x : Int) : x ∈ behindR u live t ↔ x ∈ needL live (bySelf u t) := by
  unfold behindR
  rw [mem_foldPut, needL_mem]
  simp only [List.not_mem_nil, false_or]
  constructor
  · rintro ⟨p, h1, h2⟩
    exact ⟨p, (nexts_mem hw ht p).1 h1, h2⟩
  · rintro ⟨p, h1, h2⟩
    exact ⟨p, (nexts_mem hw ht p).2 h1, h2⟩
theorem nodup_mem_len {l m : List Int} (hl : l.Nodup) (hm : m.Nodup) (h : ∀ x, x ∈ l ↔ x ∈ m) : l.length = m.length :=
  Nat.le_antisymm (nodup_sub_len hl fun x hx => (h x).1 hx) (nodup_sub_len hm fun x hx => (h x).2 hx)
/-- What is needed behind an instruction, with what it writes. -/
def behindW (u : UntN) (live : List (List Int)) (t : Nat) : List Int := if 0 ≤ writesI (u.code.getD t ins0) then insS (writesI (u.code.getD t ins0)) (behindR u live t) else behindR u live t
theorem behindW_len {u : UntN} (hw : writB u = true) {t : Nat} (ht : t < u.code.length) : (behindW u (liveL u) t).length = (behindL u t).length := by
  unfold behindW behindL
  have h := behindR_mem hw ht (liveL u)
  split
  · refine nodup_mem_len (sorted_nodup (sorted_insS (behindR_sorted _ _ _))) (addL_nodup _ (needL_nodup _ _)) fun x => ?_
    rw [mem_insS, addL_mem, h]
    simp [or_comm]
  · exact nodup_mem_len (sorted_nodup (behindR_sorted _ _ _)) (needL_nodup _ _) h
/-- The clashing pairs, as the reference comes by them. -/
def clInsR (u : UntN) (live : List (List Int)) (l : List (Int × Int)) (t : Nat) : List (Int × Int) :=
  if 0 ≤ writesI (u.code.getD t ins0) then (behindR u live t).foldl (fun l s => noteP l (writesI (u.code.getD t ins0)) s) l else l
def clToR (u : UntN) (live : List (List Int)) : Nat → List (Int × Int)
  | 0 => clLive (clArgs [] u.args.toNat) (live.getD 0 []) u.args.toNat
  | t + 1 => clInsR u live (clToR u live t) t
theorem clR_mem {u : UntN} (hw : writB u = true) : ∀ t, t ≤ u.code.length → ∀ p, p ∈ clToR u (liveL u) t ↔ p ∈ (List.range t).foldl (clIns u (liveL u)) (clLive (clArgs [] u.args.toNat) ((liveL u).getD 0 []) u.args.toNat)
  | 0, _, _ => Iff.rfl
  | t + 1, ht, p => by
    have ih := clR_mem hw t (by omega) p
    rw [List.range_succ, List.foldl_append]
    show p ∈ clInsR u (liveL u) (clToR u (liveL u) t) t ↔ p ∈ clIns u (liveL u) _ t
    unfold clInsR clIns
    split
    · rw [mem_foldNote, mem_foldNote, ih]
      refine or_congr_right ⟨?_, ?_⟩
      · rintro ⟨b, h1, h2⟩
        exact ⟨b, (behindR_mem hw (by omega) _ b).1 h1, h2⟩
      · rintro ⟨b, h1, h2⟩
        exact ⟨b, (behindR_mem hw (by omega) _ b).2 h1, h2⟩
    · exact ih
theorem clR_all {u : UntN} (hw : writB u = true) (p : Int × Int) : p ∈ clToR u (liveL u) u.code.length ↔ p ∈ clashL u := clR_mem hw _ (Nat.le_refl _) p
theorem clR_B {u : UntN} (hw : writB u = true) (a b : Int) : clB (clToR u (liveL u) u.code.length) a b = clB (clashL u) a b := by
  unfold clB
  rw [Bool.eq_iff_iff, List.contains_iff_mem, List.contains_iff_mem]
  exact clR_all hw _
/-- The pairs, read off row by row. -/
def rowP (f : Int → Int → Bool) (n i : Nat) : Nat → List (Int × Int)
  | 0 => []
  | k + 1 => rowP f n i k ++ if i < k ∧ k < n ∧ f i k = true then [((i : Int), (k : Int))] else []
def rowsP (f : Int → Int → Bool) (n : Nat) : Nat → List (Int × Int)
  | 0 => []
  | i + 1 => rowsP f n i ++ rowP f n i n
theorem mem_rowP {f : Int → Int → Bool} {n i : Nat} {p : Int × Int} : ∀ {k}, p ∈ rowP f n i k ↔ ∃ j : Nat, j < k ∧ i < j ∧ j < n ∧ f i j = true ∧ p = ((i : Int), (j : Int))
  | 0 => ⟨fun h => (by cases h), fun ⟨j, h, _⟩ => absurd h (Nat.not_lt_zero j)⟩
  | k + 1 => by
    unfold rowP
    rw [List.mem_append, mem_rowP]
    constructor
    · rintro (⟨j, h1, h2⟩ | h)
      · exact ⟨j, by omega, h2⟩
      · split at h
        · rename_i hc
          exact ⟨k, by omega, hc.1, hc.2.1, hc.2.2, by simpa using h⟩
        · cases h
    · rintro ⟨j, h1, h2, h3, h4, h5⟩
      by_cases e : j = k
      · subst e
        exact .inr (by rw [if_pos ⟨h2, h3, h4⟩, h5]; simp)
      · exact .inl ⟨j, by omega, h2, h3, h4, h5⟩
theorem mem_rowsP {f : Int → Int → Bool} {n : Nat} {p : Int × Int} : ∀ {k}, p ∈ rowsP f n k ↔ ∃ i j : Nat, i < k ∧ i < j ∧ j < n ∧ f i j = true ∧ p = ((i : Int), (j : Int))
  | 0 => ⟨fun h => (by cases h), fun ⟨i, j, h, _⟩ => absurd h (Nat.not_lt_zero i)⟩
  | k + 1 => by
    unfold rowsP
    rw [List.mem_append, mem_rowsP, mem_rowP]
    constructor
    · rintro (⟨i, j, h1, h2⟩ | ⟨j, h1, h2, h3, h4, h5⟩)
      · exact ⟨i, j, by omega, h2⟩
      · exact ⟨k, j, by omega, h2, h3, h4, h5⟩
    · rintro ⟨i, j, h1, h2, h3, h4, h5⟩
      by_cases e : i = k
      · subst e
        exact .inr ⟨j, h3, h2, h3, h4, h5⟩
      · exact .inl ⟨i, j, by omega, h2, h3, h4, h5⟩
theorem sorted_rowP {f : Int → Int → Bool} {n i : Nat} : ∀ k, SortedP (rowP f n i k)
  | 0 => .nil
  | k + 1 => by
    unfold rowP
    refine List.pairwise_append.2 ⟨sorted_rowP k, by split <;> simp, fun x hx y hy => ?_⟩
    obtain ⟨j, h1, _, _, _, rfl⟩ := mem_rowP.1 hx
    split at hy
    · rw [List.mem_singleton.1 hy, ltP_iff]
      exact .inr ⟨rfl, by show (j : Int) < (k : Int); omega⟩
    · cases hy
theorem sorted_rowsP {f : Int → Int → Bool} {n : Nat} : ∀ k, SortedP (rowsP f n k)
  | 0 => .nil
  | k + 1 => by
    unfold rowsP
    refine List.pairwise_append.2 ⟨sorted_rowsP k, sorted_rowP n, fun x hx y hy => ?_⟩
    obtain ⟨i, j, h1, _, _, _, rfl⟩ := mem_rowsP.1 hx
    obtain ⟨m, _, _, _, _, rfl⟩ := mem_rowP.1 hy
    rw [ltP_iff]
    exact .inl (by show (i : Int) < (k : Int); omega)
/-- The reference tells the clashing pairs of package regs. -/
theorem rows_clash {u : UntN} (hw : writB u = true) {f : Int → Int → Bool} (hf : ∀ i j : Nat, i < j → j < u.slots.toNat → f i j = clB (clashL u) i j) : rowsP f u.slots.toNat u.slots.toNat = clashL u := by
  have hg := clashL_good hw
  refine sortedP_ext (sorted_rowsP _) hg.1 fun p => ?_
  rw [mem_rowsP]
  constructor
  · rintro ⟨i, j, h1, h2, h3, h4, rfl⟩
    rw [hf i j h2 h3] at h4
    unfold clB at h4
    have := List.contains_iff_mem.1 h4
    unfold pairP at this
    rwa [show min (i : Int) (j : Int) = i by omega, show max (i : Int) (j : Int) = j by omega] at this
  · intro hp
    obtain ⟨h1, h2, h3⟩ := hg.2 p hp
    refine ⟨p.1.toNat, p.2.toNat, by omega, by omega, by omega, ?_, Prod.ext (by show p.1 = _; omega) (by show p.2 = _; omega)⟩
    rw [hf _ _ (by omega) (by omega)]
    unfold clB
    rw [List.contains_iff_mem]
    unfold pairP
    rw [show min ((p.1.toNat : Nat) : Int) ((p.2.toNat : Nat) : Int) = p.1 by omega, show max ((p.1.toNat : Nat) : Int) ((p.2.toNat : Nat) : Int) = p.2 by omega]
    exact hp
/-- The colours of the slots ahead that clash. -/
def nearR (cl : List (Int × Int)) (s : Nat) : Nat → List Int
  | 0 => []
  | k + 1 => nearR cl s k ++ if clB cl s k = true then [(colN cl (colsTo cl k) k : Int)] else []
theorem mem_near {cl : List (Int × Int)} {s : Nat} {x : Int} : ∀ {k}, x ∈ nearR cl s k ↔ ∃ j : Nat, j < k ∧ clB cl s j = true ∧ x = (colN cl (colsTo cl j) j : Int)
  | 0 => ⟨fun h => (by cases h), fun ⟨j, h, _⟩ => absurd h (Nat.not_lt_zero j)⟩
  | k + 1 => by
    unfold nearR
    rw [List.mem_append, mem_near]
    constructor
    · rintro (⟨j, h1, h2⟩ | h)
      · exact ⟨j, by omega, h2⟩
      · split at h
        · rename_i hc
          exact ⟨k, by omega, hc, by simpa using h⟩
        · cases h
    · rintro ⟨j, h1, h2, h3⟩
      by_cases e : j = k
      · subst e
        exact .inr (by rw [if_pos h2, h3]; simp)
      · exact .inl ⟨j, by omega, h2, h3⟩
theorem near_bad {cl : List (Int × Int)} {s n : Nat} : colBad cl (colsTo cl s) s n = true ↔ (n : Int) ∈ nearR cl s s := by
  rw [colBad_iff, mem_near]
  constructor
  · rintro ⟨x, h1, h2, h3⟩
    obtain ⟨j, hj, rfl⟩ := colsTo_mem.1 h1
    exact ⟨j, hj, h3, h2.symm⟩
  · rintro ⟨j, hj, h1, h2⟩
    exact ⟨_, colsTo_mem.2 ⟨j, hj, rfl⟩, h2.symm, h1⟩
theorem near_colN {cl : List (Int × Int)} {s n : Nat} (h : ∀ m, m < n → (m : Int) ∈ nearR cl s s) (h2 : (n : Int) ∉ nearR cl s s) : n = colN cl (colsTo cl s) s :=
  colN_eq (fun m hm => near_bad.2 (h m hm)) (by
    cases hc : colBad cl (colsTo cl s) s n with
    | false => rfl
    | true => exact absurd (near_bad.1 hc) h2)
theorem near_len (cl : List (Int × Int)) (s : Nat) : ∀ k, (nearR cl s k).length ≤ k
  | 0 => Nat.le_refl _
  | k + 1 => by
    have := near_len cl s k
    unfold nearR
    rw [List.length_append]
    split
    · rw [List.length_singleton]; omega
    · rw [List.length_nil]; omega

/-- What stands at a place of a group stands at all places from its first one on. -/
theorem fs_cont (code : List InsN) : ∀ (k j : Nat), k ≤ code.length → j < k → 0 ≤ (fsTo code k).getD j 0 → ∀ m : Nat, (fsTo code k).getD j 0 ≤ (m : Int) → m ≤ j → (fsTo code k).getD m 0 = (fsTo code k).getD j 0
  | 0, j, _, hj, _, _, _, _ => absurd hj (Nat.not_lt_zero j)
  | k + 1, j, hk, hj, h0, m, h1, h2 => by
    have hl := fsTo_length code k
    have hone : ∀ i, (fsOne code (fsTo code k) k).getD i 0 = if i = k then (if argB (code.getD k ins0) = true then -1 else (k : Int)) else (fsTo code k).getD i 0 := fun i => by
      unfold fsOne
      rw [getDI_set _ _ _ _ (by omega)]
    have base : 0 ≤ (fsOne code (fsTo code k) k).getD j 0 → (fsOne code (fsTo code k) k).getD j 0 ≤ (m : Int) → (fsOne code (fsTo code k) k).getD m 0 = (fsOne code (fsTo code k) k).getD j 0 := fun g0 g1 => by
      rw [hone] at g0 g1 ⊢
      rw [hone]
      by_cases e : j = k
      · subst e
        rw [if_pos rfl] at g0 g1 ⊢
        by_cases ha : argB (code.getD j ins0) = true
        · rw [if_pos ha] at g0; omega
        · rw [if_neg ha] at g1 ⊢
          have : m = j := by omega
          subst this
          rw [if_pos rfl]
      · rw [if_neg e] at g0 g1 ⊢
        rw [if_neg (by omega)]
        exact fs_cont code k j (by omega) (by omega) g0 m g1 h2
    rw [show fsTo code (k + 1) = fsStep code (fsTo code k) k from rfl] at h0 h1 ⊢
    unfold fsStep at h0 h1 ⊢
    split at h0
    · rename_i hc
      rw [if_pos hc] at h1 ⊢
      have hg : grpN code k ≤ k := Nat.le_trans (grpGo_le code k _) (runN_le (by omega))
      have hs : ∀ i, (setMany (fsOne code (fsTo code k) k) (k - grpN code k) ((k - grpN code k : Nat) : Int) (grpN code k + 1)).getD i 0 = if k - grpN code k ≤ i ∧ i < k - grpN code k + (grpN code k + 1) then ((k - grpN code k : Nat) : Int) else (fsOne code (fsTo code k) k).getD i 0 := fun i => setMany_getD _ _ _ _ _ (by rw [fsOne_length]; omega)
      rw [hs] at h0 h1 ⊢
      rw [hs]
      by_cases e : k - grpN code k ≤ j ∧ j < k - grpN code k + (grpN code k + 1)
      · rw [if_pos e] at h1 ⊢
        rw [if_pos (by omega)]
      · rw [if_neg e] at h0 h1 ⊢
        rw [if_neg (by omega)]
        exact base h0 h1
    · rename_i hc
      rw [if_neg hc] at h1 ⊢
      exact base h0 h1
theorem firsts_cont {code : List InsN} {j : Nat} (hj : j < code.length) (h0 : 0 ≤ (firstsL code).getD j 0) {m : Nat} (h1 : (firstsL code).getD j 0 ≤ (m : Int)) (h2 : m ≤ j) : (firstsL code).getD m 0 = (firstsL code).getD j 0 :=
  fs_cont code code.length j (Nat.le_refl _) hj h0 m h1 h2
theorem writ_first {u : UntN} (hw : writB u = true) {k : Nat} (hk : k < u.code.length) : 0 ≤ (firstsL u.code).getD k 0 := by
  have h := writ_ins hw hk
  unfold writIns at h
  simp only [Bool.and_eq_true, Bool.not_eq_true', decide_eq_false_iff_not] at h
  have := h.1.1.1.1.2
  omega
theorem grpEnd_in {fs : List Int} {i j : Nat} (h1 : i < j) (h2 : j ≤ grpEnd fs i) (hl : j < fs.length) : fs.getD j 0 = (i : Int) := by
  have := (grpEnd_iff (fs := fs) (i := i) (e := j - 1) (by omega) (by omega) (by omega)).2 (by omega)
  have e : j - 1 + 1 = j := by omega
  simp only [e] at this
  rw [getD_in hl]
  simpa using this
/-- Behind a group another one begins. -/
theorem next_start {u : UntN} (hw : writB u = true) {i : Nat} (_hi : i < u.code.length) (hs : (firstsL u.code).getD i 0 = (i : Int)) (hj : grpEnd (firstsL u.code) i + 1 < u.code.length) :
    (firstsL u.code).getD (grpEnd (firstsL u.code) i + 1) 0 = ((grpEnd (firstsL u.code) i + 1 : Nat) : Int) := by
  have hfl : (firstsL u.code).length = u.code.length := fsTo_length u.code u.code.length
  have hge := grpEnd_ge (firstsL u.code) i
  generalize hE : grpEnd (firstsL u.code) i = e at *
  have h0 := writ_first hw hj
  have hle : (firstsL u.code).getD (e + 1) 0 ≤ ((e + 1 : Nat) : Int) := fs_le u.code u.code.length (e + 1) (Nat.le_refl _) hj
  by_cases hc : (firstsL u.code).getD (e + 1) 0 = ((e + 1 : Nat) : Int)
  · exact hc
  · have h1 := firsts_cont hj h0 (m := e) (by omega) (by omega)
    have h2 : (firstsL u.code).getD e 0 = (i : Int) := by
      by_cases e2 : i = e
      · subst e2; exact hs
      · exact grpEnd_in (by omega) (by omega) (by omega)
    have h3 := (grpEnd_iff (fs := firstsL u.code) (i := i) (e := e) hge (by omega) (by omega)).1 (by
      rw [← getD_in (d := (0 : Int)) (by omega)]
      rw [← h1, h2]
      simp)
    omega
theorem starts_go {u : UntN} (hw : writB u = true) : ∀ (f i : Nat), u.code.length ≤ i + f → i ≤ u.code.length → (i < u.code.length → (firstsL u.code).getD i 0 = (i : Int)) →
    ((List.range' i (u.code.length - i)).filter fun i => (firstsL u.code).getD i 0 == (i : Int)).map (grpAt u.code (firstsL u.code)) = grpsGo u.code (firstsL u.code) f i
  | 0, i, h, h1, _ => by
    rw [show u.code.length - i = 0 by omega]
    rfl
  | f + 1, i, h, h1, hs => by
    unfold grpsGo
    by_cases hi : i < u.code.length
    · rw [if_pos hi]
      have hfl : (firstsL u.code).length = u.code.length := fsTo_length u.code u.code.length
      have hge := grpEnd_ge (firstsL u.code) i
      have hlt : grpEnd (firstsL u.code) i < u.code.length := by rw [← hfl]; exact grpEnd_lt (by rw [hfl]; exact hi)
      have hns : grpEnd (firstsL u.code) i + 1 < u.code.length → (firstsL u.code).getD (grpEnd (firstsL u.code) i + 1) 0 = ((grpEnd (firstsL u.code) i + 1 : Nat) : Int) := next_start hw hi (hs hi)
      have ih := starts_go hw f (grpEnd (firstsL u.code) i + 1) (by omega) (by omega) hns
      have hin : ∀ j, i < j → j ≤ grpEnd (firstsL u.code) i → (firstsL u.code).getD j 0 = (i : Int) := fun j g1 g2 => grpEnd_in g1 g2 (by omega)
      rw [← ih]
      generalize grpEnd (firstsL u.code) i = e at *
      have e1 : List.range' i (u.code.length - i) = i :: (List.range' (i + 1) (e - i) ++ List.range' (e + 1) (u.code.length - (e + 1))) := by
        have e2 : u.code.length - i = (e - i) + (u.code.length - (e + 1)) + 1 := by omega
        rw [e2, List.range'_succ]
        congr 1
        have e3 := List.range'_append (s := i + 1) (m := e - i) (n := u.code.length - (e + 1)) (step := 1)
        rw [← e3]
        congr 2
        omega
      rw [e1, List.filter_cons, if_pos (by rw [hs hi]; simp), List.map_cons, List.filter_append]
      have e4 : (List.range' (i + 1) (e - i)).filter (fun i => (firstsL u.code).getD i 0 == (i : Int)) = [] := by
        rw [List.filter_eq_nil_iff]
        intro j hj
        have hj := List.mem_range'_1.1 hj
        rw [hin j (by omega) (by omega)]
        simp only [beq_iff_eq]
        omega
      rw [e4, List.nil_append]
    · rw [if_neg hi, show u.code.length - i = 0 by omega]
      rfl
theorem first_start (u : UntN) (hw : writB u = true) (h : 0 < u.code.length) : (firstsL u.code).getD 0 0 = ((0 : Nat) : Int) := by
  have h0 := writ_first hw h
  have h1 : (firstsL u.code).getD 0 0 ≤ ((0 : Nat) : Int) := fs_le u.code u.code.length 0 (Nat.le_refl _) h
  omega
/-- The groups, by their first instructions. -/
theorem starts_groups {u : UntN} (hw : writB u = true) : ((List.range u.code.length).filter fun i => (firstsL u.code).getD i 0 == (i : Int)).map (grpAt u.code (firstsL u.code)) = groupsL u := by
  have h := starts_go hw u.code.length 0 (by omega) (Nat.zero_le _) (first_start u hw)
  rw [Nat.sub_zero, ← List.range_eq_range'] at h
  exact h
/-- The greatest number of slots that a group reads, place by place. -/
def leastTo (u : UntN) : Nat → Nat
  | 0 => 1
  | t + 1 => if (firstsL u.code).getD t 0 = (t : Int) then max (leastTo u t) (grpReads u.code t (grpEnd (firstsL u.code) t)).length else leastTo u t
theorem leastTo_eq {u : UntN} : ∀ t, leastTo u t = leastL (((List.range t).filter fun i => (firstsL u.code).getD i 0 == (i : Int)).map (grpAt u.code (firstsL u.code)))
  | 0 => rfl
  | t + 1 => by
    unfold leastTo
    rw [List.range_succ, List.filter_append, List.map_append, leastTo_eq t]
    by_cases h : (firstsL u.code).getD t 0 = (t : Int)
    · rw [if_pos h, List.filter_cons, if_pos (by rw [h]; simp), List.filter_nil, List.map_cons, List.map_nil, foldMax_snoc]
      rfl
    · rw [if_neg h, List.filter_cons, if_neg (by simpa using h), List.filter_nil, List.map_nil, List.append_nil]
theorem least_to {u : UntN} (hw : writB u = true) : leastTo u u.code.length = leastN u := by
  rw [leastTo_eq, starts_groups hw]
  rfl
end Go.Proofs.YtgalekifgnecjaaGreat
