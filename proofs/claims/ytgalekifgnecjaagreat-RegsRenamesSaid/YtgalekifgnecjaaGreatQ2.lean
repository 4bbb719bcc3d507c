/- A unit whose slots have other names can be written anew just as well, with the same least number, the same press and as many clashes. -/
import Derived.Test.YtgalekifgnecjaaGreatQ1
import Derived.Test.YtgalekifgnecjaaGreatS7
namespace Go.Proofs.YtgalekifgnecjaaGreat
open Go.RowKit Go.Shelf
theorem allCongr {α : Type} {p q : α → Bool} : ∀ {l : List α}, (∀ x ∈ l, p x = q x) → l.all p = l.all q
  | [], _ => rfl
  | x :: l, h => by rw [List.all_cons, List.all_cons, h x (by simp), allCongr (fun y hy => h y (by simp [hy]))]
def renU (f : Int → Int) (u : UntN) : UntN := ⟨u.cls, u.name, u.args, u.slots, u.frame, u.code.map (renI f), u.guards⟩
/-- What is known of the operations of a unit. -/
def OpsIn (u : UntN) : Prop := ∀ x ∈ u.code, 0 ≤ x.op ∧ x.op ≤ 32
theorem writ_ops {u : UntN} (hw : writB u = true) : OpsIn u := by
  intro x hx
  obtain ⟨k, hk, rfl⟩ := List.getElem_of_mem hx
  have hp := writ_plain hw
  have h2 := writ_ins hw hk
  unfold writIns at h2
  simp only [plainB, plainIns, opOk, Bool.and_eq_true, List.all_eq_true, decide_eq_true_eq] at hp
  have h1 := (hp.1.2 _ (List.getElem_mem hk)).1
  rw [getD_in hk] at h2
  simp only [Bool.and_eq_true, Bool.not_eq_true', beq_eq_false_iff_ne] at h2
  have e33 := h2.1.1.1.2
  have e34 := h2.1.1.2
  omega
section
variable {f g : Int → Int} {u : UntN}
theorem ren_ins0 : renI f ins0 = ins0 := by simp [renI, replI, writesI, formL, opOk, form0, ins0, rdA, rdB, rdBC]
theorem ren_at (u : UntN) (t : Nat) : (renU f u).code.getD t ins0 = renI f (u.code.getD t ins0) := by
  show (u.code.map (renI f)).getD t ins0 = _
  simp only [List.getD_eq_getElem?_getD, List.getElem?_map]
  cases u.code[t]? with
  | none => exact ren_ins0.symm
  | some x => rfl
theorem ops_at (ho : OpsIn u) (t : Nat) : 0 ≤ (u.code.getD t ins0).op ∧ (u.code.getD t ins0).op ≤ 32 := by
  by_cases h : t < u.code.length
  · rw [getD_in h]; exact ho _ (List.getElem_mem h)
  · rw [List.getD_eq_getElem?_getD, List.getElem?_eq_none (by omega)]
    exact ⟨by decide, by decide⟩
theorem ren_len (u : UntN) : (renU f u).code.length = u.code.length := List.length_map _
variable {a n : Int}
theorem ren_x (h : RenF f g a n) (ho : OpsIn u) (t : Nat) : RenX f (u.code.getD t ins0) := ren_facts h _ (ops_at ho t)
theorem ren_arg (x : InsN) : argB (renI f x) = argB x := by unfold argB; rw [ren_op]
theorem ren_ends (x : InsN) : endsB (renI f x) = endsB x := by unfold endsB; rw [ren_op]
theorem ren_call (x : InsN) : callB (renI f x) = callB x := by unfold callB; rw [ren_op]
theorem ren_raises (x : InsN) : raisesB (renI f x) = raisesB x := by unfold raisesB; rw [ren_op]
theorem ren_run (l : List InsN) (i : Nat) : runN (l.map (renI f)) i = runN l i := by
  unfold runN
  rw [← List.map_take, ← List.map_reverse, List.takeWhile_map, List.length_map]
  have e : argB ∘ renI f = argB := funext fun x => ren_arg x
  rw [e]
theorem ren_rising {l : List InsN} (h : ∀ x ∈ l, (renI f x).a = x.a) : risingB (l.map (renI f)) = risingB l := by
  unfold risingB
  rw [List.length_map]
  refine allCongr ?_
  intro k hk
  have hk := List.mem_range.1 hk
  rw [getD_in hk, getD_in (by rw [List.length_map]; exact hk), List.getElem_map, h _ (List.getElem_mem hk)]
theorem ren_grpGo (h : RenF f g a n) (ho : OpsIn u) {i : Nat} (hi : i ≤ u.code.length) : ∀ m, m ≤ runN u.code i → grpGo (u.code.map (renI f)) i m = grpGo u.code i m
  | 0, _ => rfl
  | m + 1, hm => by
    have hr := runN_le hi
    unfold grpGo
    rw [← List.map_drop, ← List.map_take, ren_rising, ren_grpGo h ho hi m (by omega)]
    intro x hx
    obtain ⟨k, hk, rfl⟩ := List.getElem_of_mem hx
    rw [List.length_take, List.length_drop] at hk
    rw [List.getElem_take, List.getElem_drop]
    have hb := (runN_iff (r := m - k) hi (by omega) (by omega)).2 (by omega)
    have e : i - (m - k) - 1 = i - (m + 1) + k := by omega
    simp only [e] at hb
    exact (ren_facts h _ (ho _ (List.getElem_mem _))).ag hb
theorem ren_grpN (h : RenF f g a n) (ho : OpsIn u) {i : Nat} (hi : i ≤ u.code.length) : grpN (u.code.map (renI f)) i = grpN u.code i := by
  unfold grpN
  rw [ren_run]
  exact ren_grpGo h ho hi _ (Nat.le_refl _)
theorem ren_fsTo (h : RenF f g a n) (ho : OpsIn u) : ∀ k, k ≤ u.code.length → fsTo (u.code.map (renI f)) k = fsTo u.code k
  | 0, _ => by unfold fsTo; rw [List.length_map]
  | k + 1, hk => by
    unfold fsTo
    rw [ren_fsTo h ho k (by omega)]
    unfold fsStep fsOne
    have e := ren_at (f := f) u k
    unfold renU at e
    dsimp only at e
    rw [e, ren_call, ren_arg, ren_grpN h ho (by omega)]
theorem ren_firsts (h : RenF f g a n) (ho : OpsIn u) : firstsL (renU f u).code = firstsL u.code := by
  unfold firstsL
  rw [ren_len]
  exact ren_fsTo h ho _ (Nat.le_refl _)
theorem ren_plain (h : RenF f g a n) (ho : OpsIn u) : plainB (renU f u) = plainB u := by
  have e : (renU f u).code.all (plainIns u.code.length) = u.code.all (plainIns u.code.length) := by
    show (u.code.map (renI f)).all _ = _
    rw [List.all_map]
    refine allCongr ?_
    intro x hx
    show plainIns _ (renI f x) = _
    unfold plainIns
    rw [ren_op, (ren_facts h x (ho x hx)).pl]
  unfold plainB
  rw [ren_len, e]
  rfl
theorem ren_inN (h : RenF f g a n) (x : Int) : inN (f x) 0 (n - 1) = inN x 0 (n - 1) := by
  unfold inN
  have h1 := h.nonneg x
  have h2 := h.below x
  rw [show (decide (0 ≤ f x)) = decide (0 ≤ x) by simp only [h1], show decide (f x ≤ n - 1) = decide (x ≤ n - 1) from decide_eq_decide.2 (by omega)]
theorem ren_writIns (h : RenF f g a u.slots) (ho : OpsIn u) (fs : List Int) (k : Nat) : writIns (renU f u) fs k = writIns u fs k := by
  have hX := ren_x h ho k
  unfold writIns
  rw [ren_at, hX.rd, hX.wr, hX.po, ren_op, ren_raises, List.all_map]
  have e1 : ((fun s => inN s 0 ((renU f u).slots - 1)) ∘ f) = fun s => inN s 0 (u.slots - 1) := funext fun s => ren_inN h s
  have e2 : (f (writesI (u.code.getD k ins0)) == -1) = (writesI (u.code.getD k ins0) == -1) := by
    rw [Bool.eq_iff_iff, beq_iff_eq, beq_iff_eq, h.one]
  have e3 : inN (f (writesI (u.code.getD k ins0))) 0 ((renU f u).slots - 1) = inN (writesI (u.code.getD k ins0)) 0 (u.slots - 1) := ren_inN h _
  rw [e1, e2, e3]
  rfl
theorem ren_writ (h : RenF f g a u.slots) (ho : OpsIn u) : writB (renU f u) = writB u := by
  unfold writB
  rw [ren_plain h ho, ren_len, ren_at, ren_ends, ren_firsts h ho]
  have e : writIns (renU f u) (firstsL u.code) = writIns u (firstsL u.code) := funext fun k => ren_writIns h ho _ k
  rw [e]
  rfl
theorem addL_map (h : RenF f g a n) : ∀ (m l : List Int), addL (l.map f) (m.map f) = (addL l m).map f
  | [], l => rfl
  | x :: m, l => by
    have e1 : addL l (x :: m) = addL (if l.contains x = true then l else l ++ [x]) m := rfl
    have e2 : addL (l.map f) ((x :: m).map f) = addL (if (l.map f).contains (f x) = true then l.map f else l.map f ++ [f x]) (m.map f) := rfl
    have e3 : ((l.map f).contains (f x) = true) = (l.contains x = true) := by
      apply propext
      rw [List.contains_iff_mem, List.contains_iff_mem, List.mem_map]
      exact ⟨fun ⟨y, hy, e⟩ => h.inj e ▸ hy, fun hy => ⟨x, hy, rfl⟩⟩
    rw [e1, e2]
    simp only [e3]
    rw [← addL_map h m]
    split
    · rfl
    · rw [List.map_append]; rfl
theorem ren_reads (h : RenF f g a n) (ho : OpsIn u) : ∀ (l : List InsN), (∀ x ∈ l, x ∈ u.code) → ∀ s : List Int, (l.map (renI f)).foldl (fun l x => addL l (readsL x)) (s.map f) = (l.foldl (fun l x => addL l (readsL x)) s).map f
  | [], _, s => rfl
  | x :: l, hl, s => by
    rw [List.map_cons, List.foldl_cons, List.foldl_cons, (ren_facts h x (ho x (hl x (by simp)))).rd, addL_map h]
    exact ren_reads h ho l (fun y hy => hl y (by simp [hy])) _
def renG (f : Int → Int) (x : GrpN) : GrpN := ⟨x.frm, x.til, x.reads.map f, f x.wr⟩
theorem ren_grpAt (h : RenF f g a n) (ho : OpsIn u) (fs : List Int) (i : Nat) : grpAt (u.code.map (renI f)) fs i = renG f (grpAt u.code fs i) := by
  unfold grpAt renG
  have e1 : grpReads (u.code.map (renI f)) i (grpEnd fs i) = (grpReads u.code i (grpEnd fs i)).map f := by
    unfold grpReads
    rw [← List.map_drop, ← List.map_take]
    exact ren_reads h ho _ (fun x hx => List.mem_of_mem_drop (List.mem_of_mem_take hx)) []
  have e2 : writesI ((u.code.map (renI f)).getD (grpEnd fs i) ins0) = f (writesI (u.code.getD (grpEnd fs i) ins0)) := by
    have e := ren_at (f := f) u (grpEnd fs i)
    unfold renU at e
    dsimp only at e
    rw [e]
    exact (ren_x h ho _).wr
  rw [e1, e2]
theorem ren_grpsGo (h : RenF f g a n) (ho : OpsIn u) (fs : List Int) : ∀ (k i : Nat), grpsGo (u.code.map (renI f)) fs k i = (grpsGo u.code fs k i).map (renG f)
  | 0, _ => rfl
  | k + 1, i => by
    unfold grpsGo
    rw [List.length_map, ren_grpAt h ho, ren_grpsGo h ho fs k]
    split <;> rfl
theorem ren_groups (h : RenF f g a n) (ho : OpsIn u) : groupsL (renU f u) = (groupsL u).map (renG f) := by
  unfold groupsL
  rw [ren_firsts h ho, ren_len]
  exact ren_grpsGo h ho _ _ _
theorem leastL_map (l : List GrpN) : leastL (l.map (renG f)) = leastL l := by
  unfold leastL
  rw [List.foldl_map]
  have e : (fun (x : Nat) (y : GrpN) => max x (renG f y).reads.length) = fun (x : Nat) (y : GrpN) => max x y.reads.length := by
    funext x y
    unfold renG
    rw [List.length_map]
  rw [e]
theorem ren_least (h : RenF f g a n) (ho : OpsIn u) : leastN (renU f u) = leastN u := by
  unfold leastN
  rw [ren_groups h ho, leastL_map]
theorem ren_leads (h : RenF f g a n) (ho : OpsIn u) (t : Nat) : leadsL (renU f u) t = leadsL u t := by
  unfold leadsL
  rw [ren_at, ren_op, ren_len, (ren_x h ho t).pl]
  rfl
theorem ren_bySelf (h : RenF f g a n) (ho : OpsIn u) (t : Nat) : bySelf (renU f u) t = bySelf u t := by
  unfold bySelf
  rw [ren_at, ren_ends, ren_len, (ren_x h ho t).po]
/-- One list holds the other names of another one. -/
def RelS (f : Int → Int) (l m : List Int) : Prop := ∀ x, f x ∈ m ↔ x ∈ l
def RelL (f : Int → Int) (s s' : List (List Int)) : Prop := ∀ t, RelS f (s.getD t []) (s'.getD t [])
theorem map_nodup (h : RenF f g a n) : ∀ {l : List Int}, l.Nodup → (l.map f).Nodup
  | [], _ => List.nodup_nil
  | x :: l, hn => by
    obtain ⟨h1, h2⟩ := List.nodup_cons.1 hn
    rw [List.map_cons, List.nodup_cons]
    refine ⟨fun hm => ?_, map_nodup h h2⟩
    obtain ⟨y, hy, e⟩ := List.mem_map.1 hm
    exact h1 (h.inj e ▸ hy)
theorem RelS.len (h : RenF f g a n) {l m : List Int} (hr : RelS f l m) (hl : l.Nodup) (hm : m.Nodup) : m.length = l.length := by
  have h1 := nodup_sub_len (map_nodup h hl) (m := m) (fun y hy => by
    obtain ⟨x, hx, rfl⟩ := List.mem_map.1 hy
    exact (hr x).2 hx)
  have h2 := nodup_sub_len hm (m := l.map f) (fun y hy => by
    refine List.mem_map.2 ⟨g y, (hr (g y)).1 ?_, h.fg y⟩
    rw [h.fg]; exact hy)
  rw [List.length_map] at h1 h2
  omega
theorem addL_nodup : ∀ (m : List Int) {l : List Int}, l.Nodup → (addL l m).Nodup
  | [], _, h => h
  | x :: m, l, h => by
    have e : addL l (x :: m) = addL (if l.contains x = true then l else l ++ [x]) m := rfl
    rw [e]
    refine addL_nodup m ?_
    split
    · exact h
    · rename_i hx
      rw [List.contains_iff_mem] at hx
      exact List.nodup_append.2 ⟨h, by simp, fun y hy z hz e => hx (by rw [List.mem_singleton.1 hz] at e; exact e ▸ hy)⟩
theorem foldNeed_nodup (L : List (List Int)) : ∀ (ps : List Int) {s : List Int}, s.Nodup → (ps.foldl (fun out p => addL out (L.getD p.toNat [])) s).Nodup
  | [], _, h => h
  | _p :: ps, _s, h => foldNeed_nodup L ps (addL_nodup _ h)
theorem needL_nodup (L : List (List Int)) (ps : List Int) : (needL L ps).Nodup := foldNeed_nodup L ps List.nodup_nil
theorem ren_nowS (h : RenF f g a n) (ho : OpsIn u) {s s' : List (List Int)} (hr : RelL f s s') (t : Nat) : RelS f (nowS u s t) (nowS (renU f u) s' t) := by
  intro x
  have hX := ren_x h ho t
  rw [mem_nowS, mem_nowS, ren_leads h ho, ren_at, hX.rd, hX.wr]
  have e1 : ∀ e : Int × Int, (f x ∈ s'.getD e.1.toNat []) ↔ x ∈ s.getD e.1.toNat [] := fun e => hr _ x
  have e2 : (f x != f (writesI (u.code.getD t ins0))) = (x != writesI (u.code.getD t ins0)) := by
    rw [Bool.eq_iff_iff, bne_iff_ne, bne_iff_ne]
    exact ⟨fun h1 h2 => h1 (by rw [h2]), fun h1 h2 => h1 (h.inj h2)⟩
  have e3 : f x ∈ (readsL (u.code.getD t ins0)).map f ↔ x ∈ readsL (u.code.getD t ins0) := by
    rw [List.mem_map]
    exact ⟨fun ⟨y, hy, e⟩ => h.inj e ▸ hy, fun hy => ⟨x, hy, rfl⟩⟩
  simp only [e1, e2, e3]
theorem RelL.set {s s' : List (List Int)} (hr : RelL f s s') {t : Nat} {l m : List Int} (h1 : t < s.length) (h2 : t < s'.length) (hm : RelS f l m) : RelL f (s.set t l) (s'.set t m) := by
  intro k
  rw [getD_set _ _ _ _ h1, getD_set _ _ _ _ h2]
  split
  · exact hm
  · exact hr k
theorem ren_liveOne (h : RenF f g a n) (ho : OpsIn u) : ∀ (t : Nat), t ≤ u.code.length → ∀ (s s' : List (List Int)) (b : Bool), GoodL u s → GoodL (renU f u) s' → RelL f s s' →
    RelL f (liveOne u t (s, b)).1 (liveOne (renU f u) t (s', b)).1 ∧ (liveOne u t (s, b)).2 = (liveOne (renU f u) t (s', b)).2
  | 0, _, s, s', b, _, _, hr => ⟨hr, rfl⟩
  | t + 1, ht, s, s', b, h1, h2, hr => by
    have hn := ren_nowS h ho hr t
    have l1 := hn.len h (sorted_nodup (sorted_nowS u s t)) (sorted_nodup (sorted_nowS _ s' t))
    have l2 := (hr t).len h (sorted_nodup (h1.so t)) (sorted_nodup (h2.so t))
    unfold liveOne
    simp only [l1, l2]
    split
    · exact ren_liveOne h ho t (by omega) _ _ true (h1.step (by omega)) (h2.step (by rw [ren_len]; omega)) (hr.set (by rw [h1.len]; omega) (by rw [h2.len, ren_len]; omega) hn)
    · exact ren_liveOne h ho t (by omega) _ _ b h1 h2 hr
theorem ren_liveGo (h : RenF f g a n) (ho : OpsIn u) : ∀ (k : Nat) (s s' : List (List Int)), GoodL u s → GoodL (renU f u) s' → RelL f s s' → RelL f (liveGo u k s) (liveGo (renU f u) k s')
  | 0, s, s', _, _, hr => hr
  | k + 1, s, s', h1, h2, hr => by
    obtain ⟨r1, r2⟩ := ren_liveOne h ho u.code.length (Nat.le_refl _) s s' false h1 h2 hr
    have g1 := (liveOne_good (s := (s, false)) h1 (Nat.le_refl _)).1
    have g2 := (liveOne_good (s := (s', false)) h2 (t := u.code.length) (by rw [ren_len]; exact Nat.le_refl _)).1
    unfold liveGo
    rw [ren_len, ← r2]
    split
    · exact ren_liveGo h ho k _ _ g1 g2 r1
    · exact r1
theorem ren_live (h : RenF f g a n) (ho : OpsIn u) : RelL f (liveL u) (liveL (renU f u)) := by
  unfold liveL
  rw [ren_len]
  refine ren_liveGo h ho _ _ _ (GoodL.first u) (by have := GoodL.first (renU f u); rwa [ren_len] at this) ?_
  intro t x
  have e : (List.replicate u.code.length ([] : List Int)).getD t [] = [] := by
    simp only [List.getD_eq_getElem?_getD, List.getElem?_replicate]
    split <;> rfl
  rw [e]
  simp
theorem ren_need (h : RenF f g a n) (ho : OpsIn u) (ps : List Int) : RelS f (needL (liveL u) ps) (needL (liveL (renU f u)) ps) := by
  intro x
  rw [needL_mem, needL_mem]
  have e : ∀ p : Int, f x ∈ (liveL (renU f u)).getD p.toNat [] ↔ x ∈ (liveL u).getD p.toNat [] := fun p => ren_live h ho _ x
  simp only [e]
theorem ren_behind (h : RenF f g a n) (ho : OpsIn u) (t : Nat) : (behindL (renU f u) t).length = (behindL u t).length := by
  have hn := ren_need h ho (bySelf u t)
  have hp := h.nonneg (writesI (u.code.getD t ins0))
  unfold behindL
  rw [ren_at, (ren_x h ho t).wr, ren_bySelf h ho]
  simp only [hp]
  split
  · refine RelS.len h ?_ (addL_nodup _ (needL_nodup _ _)) (addL_nodup _ (needL_nodup _ _))
    intro x
    rw [addL_mem, addL_mem, hn x, List.mem_singleton, List.mem_singleton]
    exact ⟨fun e => e.imp id h.inj, fun e => e.imp id (fun e => by rw [e])⟩
  · exact hn.len h (needL_nodup _ _) (needL_nodup _ _)
theorem ren_pressTo (h : RenF f g a n) (ho : OpsIn u) : ∀ t, pressTo (renU f u) t = pressTo u t
  | 0 => rfl
  | t + 1 => by
    unfold pressTo
    rw [ren_pressTo h ho t, ren_behind h ho t, (ren_live h ho t).len h (sorted_nodup ((live_good u).so t)) (sorted_nodup ((live_good _).so t))]
theorem ren_press (h : RenF f g a n) (ho : OpsIn u) : pressN (renU f u) = pressN u := by
  unfold pressN
  rw [ren_len]
  exact ren_pressTo h ho _
/-- One list of pairs holds the other names of another one. -/
def RelP (f : Int → Int) (l m : List (Int × Int)) : Prop := ∀ x y, pairP (f x) (f y) ∈ m ↔ pairP x y ∈ l
theorem pairP_iff {x y z t : Int} : pairP x y = pairP z t ↔ (x = z ∧ y = t) ∨ (x = t ∧ y = z) := by
  unfold pairP
  rw [Prod.mk.injEq]
  omega
theorem mem_noteP {l : List (Int × Int)} {s t : Int} {p : Int × Int} : p ∈ noteP l s t ↔ p ∈ l ∨ (s ≠ t ∧ p = pairP s t) := by
  unfold noteP
  split
  · rename_i e
    simp [e]
  · rename_i e
    rw [mem_insP]
    constructor
    · rintro (h | h)
      · exact .inr ⟨e, h⟩
      · exact .inl h
    · rintro (h | ⟨_, h⟩)
      · exact .inr h
      · exact .inl h
theorem mem_foldNote {s : Int} {p : Int × Int} : ∀ {bs : List Int} {l : List (Int × Int)}, p ∈ bs.foldl (fun l b => noteP l s b) l ↔ p ∈ l ∨ ∃ b ∈ bs, s ≠ b ∧ p = pairP s b
  | [], l => by simp
  | b :: bs, l => by
    rw [List.foldl_cons, mem_foldNote, mem_noteP]
    simp only [List.mem_cons, exists_eq_or_imp]
    rw [or_assoc]
theorem RelP.note (h : RenF f g a n) {l m : List (Int × Int)} (hr : RelP f l m) (s t : Int) : RelP f (noteP l s t) (noteP m (f s) (f t)) := by
  intro x y
  rw [mem_noteP, mem_noteP, hr x y, pairP_iff, pairP_iff]
  have e : ∀ p q : Int, (f p = f q) = (p = q) := fun p q => propext ⟨h.inj, fun e => by rw [e]⟩
  simp only [e, ne_eq]
theorem RelP.fold (h : RenF f g a n) {l m : List (Int × Int)} (hr : RelP f l m) (s : Int) {bs bs' : List Int} (hb : RelS f bs bs') :
    RelP f (bs.foldl (fun l b => noteP l s b) l) (bs'.foldl (fun l b => noteP l (f s) b) m) := by
  intro x y
  rw [mem_foldNote, mem_foldNote, hr x y]
  have e : ∀ p q : Int, (f p = f q) = (p = q) := fun p q => propext ⟨h.inj, fun e => by rw [e]⟩
  refine or_congr_right ?_
  constructor
  · rintro ⟨b, hb1, hne, hp⟩
    obtain ⟨c, rfl⟩ : ∃ c, b = f c := ⟨g b, (h.fg b).symm⟩
    rw [pairP_iff] at hp
    simp only [e] at hp
    exact ⟨c, (hb c).1 hb1, fun e2 => hne (by rw [e2]), pairP_iff.2 hp⟩
  · rintro ⟨b, hb1, hne, hp⟩
    rw [pairP_iff] at hp
    refine ⟨f b, (hb b).2 hb1, fun e2 => hne (h.inj e2), pairP_iff.2 ?_⟩
    simp only [e]
    exact hp
theorem ren_clArgs (h : RenF f g a n) : ∀ (k : Nat), (k : Int) ≤ a → RelP f (clArgs [] k) (clArgs [] k)
  | 0, _ => fun x y => by simp [clArgs]
  | k + 1, hk => by
    have ih := ren_clArgs h k (by omega)
    unfold clArgs
    have e : f (k : Int) = k := h.lo _ (by omega)
    have hf : ∀ (j : Nat), j ≤ k → RelP f ((List.range j).foldl (fun l (b : Nat) => noteP l k b) (clArgs [] k)) ((List.range j).foldl (fun l (b : Nat) => noteP l k b) (clArgs [] k)) := by
      intro j
      induction j with
      | zero => intro _; exact ih
      | succ j ihj =>
        intro hj
        rw [List.range_succ, List.foldl_append]
        have := (ihj (by omega)).note h (k : Int) (j : Int)
        rw [e, h.lo (j : Int) (by omega)] at this
        exact this
    exact hf k (Nat.le_refl _)
theorem ren_clLive (h : RenF f g a n) {l m : List (Int × Int)} (hr : RelP f l m) {s0 s1 : List Int} (hs : RelS f s0 s1) : ∀ (k : Nat), (k : Int) ≤ a → RelP f (clLive l s0 k) (clLive m s1 k)
  | 0, _ => hr
  | k + 1, hk => by
    have ih := ren_clLive h hr hs k (by omega)
    unfold clLive
    have := ih.fold h (k : Int) hs
    rwa [h.lo (k : Int) (by omega)] at this
theorem ren_clIns (h : RenF f g a n) (ho : OpsIn u) {l m : List (Int × Int)} (hr : RelP f l m) (t : Nat) : RelP f (clIns u (liveL u) l t) (clIns (renU f u) (liveL (renU f u)) m t) := by
  have hp := h.nonneg (writesI (u.code.getD t ins0))
  unfold clIns
  rw [ren_at, (ren_x h ho t).wr, ren_bySelf h ho]
  simp only [hp]
  split
  · exact hr.fold h _ (ren_need h ho _)
  · exact hr
theorem ren_clash (h : RenF f g u.args u.slots) (ho : OpsIn u) : RelP f (clashL u) (clashL (renU f u)) := by
  have ha := h.a0
  unfold clashL
  rw [ren_len]
  have h0 : RelP f (clLive (clArgs [] u.args.toNat) ((liveL u).getD 0 []) u.args.toNat) (clLive (clArgs [] (renU f u).args.toNat) ((liveL (renU f u)).getD 0 []) (renU f u).args.toNat) :=
    ren_clLive h (ren_clArgs h _ (by omega)) (ren_live h ho 0) _ (by omega)
  have hf : ∀ (l : List Nat) (x y : List (Int × Int)), RelP f x y → RelP f (l.foldl (clIns u (liveL u)) x) (l.foldl (clIns (renU f u) (liveL (renU f u))) y) := by
    intro l
    induction l with
    | nil => intro x y hr; exact hr
    | cons t l ih => intro x y hr; exact ih _ _ (ren_clIns h ho hr t)
  exact hf _ _ _ h0
theorem nodupP_sub : ∀ {l m : List (Int × Int)}, l.Nodup → (∀ x ∈ l, x ∈ m) → l.length ≤ m.length
  | [], _, _, _ => by simp
  | x :: l, m, hn, h => by
    obtain ⟨n1, n2⟩ := List.nodup_cons.1 hn
    have h1 := nodupP_sub (m := m.erase x) n2 (fun y hy => by
      have hne : y ≠ x := fun e => n1 (e ▸ hy)
      exact (List.mem_erase_of_ne hne).2 (h y (by simp [hy])))
    have h2 := List.length_erase_of_mem (h x (by simp))
    have h3 := List.length_pos_of_mem (h x (by simp))
    rw [List.length_cons]
    omega
theorem mapP_nodup {φ : Int × Int → Int × Int} : ∀ {l : List (Int × Int)}, l.Nodup → (∀ x ∈ l, ∀ y ∈ l, φ x = φ y → x = y) → (l.map φ).Nodup
  | [], _, _ => List.nodup_nil
  | x :: l, hn, hi => by
    obtain ⟨h1, h2⟩ := List.nodup_cons.1 hn
    rw [List.map_cons, List.nodup_cons]
    refine ⟨fun hm => ?_, mapP_nodup h2 (fun y hy z hz => hi y (by simp [hy]) z (by simp [hz]))⟩
    obtain ⟨y, hy, e⟩ := List.mem_map.1 hm
    exact h1 (hi y (by simp [hy]) x (by simp) e ▸ hy)
theorem pairP_self {p : Int × Int} (h : p.1 < p.2) : pairP p.1 p.2 = p := by
  obtain ⟨x, y⟩ := p
  unfold pairP
  simp only at h
  rw [Prod.mk.injEq]
  omega
theorem ren_clashLen (h : RenF f g u.args u.slots) (hw : writB u = true) : (clashL (renU f u)).length = (clashL u).length := by
  have ho := writ_ops hw
  have hr := ren_clash h ho
  have hg := clashL_good hw
  have hg' := clashL_good (u := renU f u) (by rw [ren_writ h ho]; exact hw)
  have h1 := nodupP_sub (l := (clashL u).map fun p => pairP (f p.1) (f p.2)) (m := clashL (renU f u)) (mapP_nodup (sortedP_nodup hg.1) (fun p hp q hq e => by
      rw [pairP_iff] at e
      have hp2 := hg.2 p hp
      have hq2 := hg.2 q hq
      rcases e with ⟨e1, e2⟩ | ⟨e1, e2⟩
      · exact Prod.ext (h.inj e1) (h.inj e2)
      · have e1 := h.inj e1
        have e2 := h.inj e2
        omega)) (fun q hq => by
      obtain ⟨p, hp, rfl⟩ := List.mem_map.1 hq
      exact (hr p.1 p.2).2 (by rw [pairP_self (hg.2 p hp).2.1]; exact hp))
  have h2 := nodupP_sub (l := clashL (renU f u)) (m := (clashL u).map fun p => pairP (f p.1) (f p.2)) (sortedP_nodup hg'.1) (fun q hq => by
      have hq2 := (hg'.2 q hq).2.1
      have hm := (hr (g q.1) (g q.2)).1 (by rw [h.fg, h.fg, pairP_self hq2]; exact hq)
      have hlt := (hg.2 _ hm).2.1
      refine List.mem_map.2 ⟨_, hm, ?_⟩
      refine Eq.trans ?_ (pairP_self hq2)
      rw [pairP_iff]
      unfold pairP at *
      simp only at *
      rcases (show g q.1 ≤ g q.2 ∨ g q.2 ≤ g q.1 by omega) with hc | hc
      · left
        rw [show min (g q.1) (g q.2) = g q.1 by omega, show max (g q.1) (g q.2) = g q.2 by omega, h.fg, h.fg]
        exact ⟨rfl, rfl⟩
      · right
        rw [show min (g q.1) (g q.2) = g q.2 by omega, show max (g q.1) (g q.2) = g q.1 by omega, h.fg, h.fg]
        exact ⟨rfl, rfl⟩)
  rw [List.length_map] at h1 h2
  omega
/-- All that the statement says of a unit whose slots have other names. -/
theorem ren_law (h : RenF f g u.args u.slots) (hw : writB u = true) : writB (renU f u) = true ∧ leastN (renU f u) = leastN u ∧ pressN (renU f u) = pressN u ∧ (clashL (renU f u)).length = (clashL u).length ∧
    ∀ p ∈ clashL u, pairP (f p.1) (f p.2) ∈ clashL (renU f u) :=
  ⟨by rw [ren_writ h (writ_ops hw)]; exact hw, ren_least h (writ_ops hw), ren_press h (writ_ops hw), ren_clashLen h hw, fun p hp => (ren_clash h (writ_ops hw) p.1 p.2).2 (by rw [pairP_self ((clashL_good hw).2 p hp).2.1]; exact hp)⟩
end
end Go.Proofs.YtgalekifgnecjaaGreat
