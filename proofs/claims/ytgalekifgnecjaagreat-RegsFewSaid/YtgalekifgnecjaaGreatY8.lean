/- What the loop over the groups keeps while the writer writes. The numbers of the unit that is written are small: plain laws. -/
import Derived.Test.YtgalekifgnecjaaGreatY6
import Derived.Test.YtgalekifgnecjaaGreatY7
import Derived.Test.YtgalekifgnecjaaGreatW1
namespace Go.Proofs.YtgalekifgnecjaaGreat
open Go.RowKit

open Go.RowKit Go.Shelf Go.Sort
/-- The blocks that are not the body's, where it owns the blocks of S and a slice that grows, in cell c of block g. -/
def MiC (S : Nat → Prop) (g c : Nat) (W : World) (k : Nat) : Prop := ¬ S k ∧ k ≠ g ∧ ∀ b off n m, W.cell? ⟨g, c, none⟩ = some (.slice (some ⟨b, off, none⟩) n m) → k ≠ b
structure WFC (S : Nat → Prop) (g c : Nat) (W : World) : Prop where
  own : ∀ k, S k → k < W.heap.size
  cell : ∃ v, W.cell? ⟨g, c, none⟩ = some v
  back : ∀ b off n m, W.cell? ⟨g, c, none⟩ = some (.slice (some ⟨b, off, none⟩) n m) → b < W.heap.size
theorem fenc_cell (S : Nat → Prop) (g c : Nat) : Fenc (MiC S g c) (WFC S g c) := by
  refine ⟨fun A B hw hb => ?_, fun W l o o' hl ho hw => ?_⟩
  · obtain ⟨v, hv⟩ := hw.cell
    have e : B.cell? ⟨g, c, none⟩ = A.cell? ⟨g, c, none⟩ := World.cell?_of_block (hb.block g (block_lt_of_cell hv))
    refine ⟨⟨fun k hk => Nat.lt_of_lt_of_le (hw.own k hk) hb.size, ⟨v, e.trans hv⟩, fun b off n m h => Nat.lt_of_lt_of_le (hw.back b off n m (e.symm.trans h)) hb.size⟩, fun k m => ⟨m.1, m.2.1, fun b off n m2 h => m.2.2 b off n m2 (e.symm.trans h)⟩, fun k h1 _ => ⟨fun hs => by have := hw.own k hs; omega, fun he => by have := block_lt_of_cell hv; simp only at this; omega, fun b off n m h => by have := hw.back b off n m (e.symm.trans h); omega⟩⟩
  · obtain ⟨v, hv⟩ := hw.cell
    have hne : g ≠ l := fun he => by
      subst he
      unfold World.cell? at hv
      rw [show (⟨g, c, none⟩ : Addr).block = g from rfl, hl] at hv
      cases o <;> simp [Obj.isCells] at ho hv
    have e : (W.putObj l o').cell? ⟨g, c, none⟩ = W.cell? ⟨g, c, none⟩ := World.cell?_of_block (World.putObj_heap_other hne)
    exact ⟨⟨fun k hk => by simpa [World.putObj] using hw.own k hk, ⟨v, e.trans hv⟩, fun b off n m h => by simpa [World.putObj] using hw.back b off n m (e.symm.trans h)⟩, fun k m => ⟨m.1, m.2.1, fun b off n m2 h => m.2.2 b off n m2 (e.symm.trans h)⟩⟩
/-- The block of a row is the one that its slice names. -/
theorem own_names {w : World} {base : Nat} {e : TypeId} {size : Nat} {v : Value} {n : Nat} {xs : List Value} (h : w.ownsRow base e size v n xs) {b off k m : Nat} (hv : v = .slice (some ⟨b, off, none⟩) k m) : v.ownBlock = some b := by
  rcases h.2 with ⟨rfl, _⟩ | ⟨g, cap, cur, rfl, _⟩
  · cases hv
  · cases hv
    rfl
theorem own_named {w : World} {base : Nat} {e : TypeId} {size : Nat} {v : Value} {n : Nat} {xs : List Value} (h : w.ownsRow base e size v n xs) {b : Nat} (hb : v.ownBlock = some b) : ∃ k m, v = .slice (some ⟨b, 0, none⟩) k m := by
  rcases h.2 with ⟨rfl, _⟩ | ⟨g, cap, cur, rfl, _⟩
  · cases hb
  · cases hb
    exact ⟨_, _, rfl⟩
section
variable {w1 : World} {r : WtrN} {x x' : WriN} {vc vc' og : Value} {W W' : World}
theorem WrI.c15 (h : WrI w1 r x vc og W) : W.cell? ⟨r.bw, 15, none⟩ = some vc := (cell_of_row _ _ 15 _ _ _ h.hx).trans rfl
theorem WrI.wfc (h : WrI w1 r x vc og W) : WFC (fun k => k = r.ba) r.bw 15 W := by
  refine ⟨fun k hk => by rw [hk]; exact h.ha.lt, ⟨vc, h.c15⟩, fun b off n m hc => ?_⟩
  have e := Option.some.inj (h.c15.symm.trans hc)
  exact own_ltR h.hc b (own_names h.hc e)
theorem WrI.mi (h : WrI w1 r x vc og W) {k : Nat} (h1 : k ≠ r.ba) (h2 : k ≠ r.bw) (h3 : vc.ownBlock ≠ some k) : MiC (fun k => k = r.ba) r.bw 15 W k :=
  ⟨h1, h2, fun b off n m hc e => h3 (by rw [e]; exact own_names h.hc (Option.some.inj (h.c15.symm.trans hc)))⟩
theorem WrI.miBack (h : WrI w1 r x vc og W) {k : Nat} (hm : MiC (fun k => k = r.ba) r.bw 15 W k) : k ≠ r.ba ∧ k ≠ r.bw ∧ vc.ownBlock ≠ some k := by
  refine ⟨hm.1, hm.2.1, fun e => ?_⟩
  obtain ⟨n, m, hv⟩ := own_named h.hc e
  exact hm.2.2 k 0 n m (by rw [h.c15, hv]) rfl
/-- A round of the loop over the groups keeps what is not the writer's. -/
theorem WrI.keepM (h : WrI w1 r x vc og W) (h' : WrI w1 r x' vc' og W') (hs : WStep r vc.ownBlock W W') (hn : NewB vc.ownBlock vc'.ownBlock W) : KeepM (MiC (fun k => k = r.ba) r.bw 15) (WFC (fun k => k = r.ba) r.bw 15) W W' := by
  refine ⟨h'.wfc, hs.os, hs.tape, hs.output, hs.size, fun k o m hk _ => ?_⟩
  obtain ⟨m1, m2, m3⟩ := h.miBack m
  have hlt := (Array.getElem?_eq_some_iff.1 hk).1
  refine ⟨(hs.block k hlt m2 m1 (fun e => m3 e.symm)).trans hk, h'.mi m1 m2 (fun e => ?_)⟩
  rcases hn with hn | ⟨b, hb, hge⟩
  · exact m3 (hn.symm.trans e)
  · have := Option.some.inj (hb.symm.trans e)
    omega
theorem WrI.others (h : WrI w1 r x vc og W) (hs : WStep r vc.ownBlock W W') : KeepsOthers W W' := by
  refine ⟨hs.size, fun k o hk hc => ?_⟩
  have hlt := (Array.getElem?_eq_some_iff.1 hk).1
  refine (hs.block k hlt (fun e => ?_) (fun e => ?_) (fun e => ?_)).trans hk
  · subst e
    rw [h.hx] at hk
    cases hk
    cases hc
  · subst e
    obtain ⟨cur, h1, _⟩ := h.ha
    rw [h1] at hk
    cases hk
    cases hc
  · rcases h.hc.2 with ⟨e1, _⟩ | ⟨g, cap, cur, e1, _, hh, _⟩
    · rw [e1] at e; cases e
    · rw [e1] at e
      cases e
      rw [hh] at hk
      cases hk
      cases hc
end
/-- A box that the writer does not hold stays. -/
theorem WrI.boxStay {w1 : World} {r : WtrN} {x : WriN} {vc og : Value} {W W' : World} (h : WrI w1 r x vc og W) (hs : WStep r vc.ownBlock W W') {b : Nat} {c : Array Value} (hb : W.heap[b]? = some (.cells c 102 (0, 0))) (h1 : b ≠ r.bw) (h2 : b ≠ r.ba) : W'.heap[b]? = some (.cells c 102 (0, 0)) := by
  refine (hs.block b (lt_of_heap hb) h1 h2 (fun e => ?_)).trans hb
  rcases h.hc.2 with ⟨e1, _⟩ | ⟨g, cap, cur, e1, _, hh, _⟩
  · rw [e1] at e; cases e
  · rw [e1] at e
    cases e
    rw [hh] at hb
    cases hb
/-- Part of the groups. -/
theorem GrpsFrom.pre {u : UntN} : ∀ (p s : List GrpN) (i : Nat), GrpsFrom u i (p ++ s) → GrpsFrom u i p
  | [], _, _, _ => trivial
  | _ :: p, s, _, ⟨h1, h2, h3, h4⟩ => ⟨h1, h2, h3, GrpsFrom.pre p s _ h4⟩
/-- What has been written when some of the groups have been gone through. -/
def wriTo (u : UntN) (k : Nat) (gs : List GrpN) : WriN := gs.foldl (grpWri u (liveL u) (houL u k).out k) ⟨argLoads (houL u k).out u.args.toNat, List.replicate u.code.length 0⟩
theorem wriTo_all (u : UntN) (k : Nat) : wriTo u k (groupsL u) = wriL u k := rfl
theorem wriTo_snoc (u : UntN) (k : Nat) (gs : List GrpN) (g : GrpN) : wriTo u k (gs ++ [g]) = grpWri u (liveL u) (houL u k).out k (wriTo u k gs) g := by
  unfold wriTo
  rw [List.foldl_append]
  rfl
theorem argLoads_len (h : List Int) (n : Nat) : (argLoads h n).length ≤ n := by
  unfold argLoads
  rw [List.length_map]
  exact Nat.le_trans (List.length_filter_le _ _) (by rw [List.length_range]; exact Nat.le_refl _)
theorem argLoads_succ (h : List Int) (n : Nat) : argLoads h (n + 1) = argLoads h n ++ if 0 ≤ homeN h n then [loadI (homeN h n) n] else [] := by
  unfold argLoads
  rw [List.range_succ, List.filter_append, List.map_append]
  congr 1
  by_cases e : 0 ≤ homeN h n
  · rw [if_pos e, List.filter_cons, if_pos (by simpa using e)]; rfl
  · rw [if_neg e, List.filter_cons, if_neg (by simpa using e)]; rfl
theorem wriTo_len {u : UntN} (hw : writB u = true) (k : Nat) {gs : List GrpN} (hp : gs <+: groupsL u) : (wriTo u k gs).code.length ≤ 3000 ∧ (wriTo u k gs).ats.length = u.code.length := by
  obtain ⟨t, ht⟩ := hp
  have ha := writ_args hw
  have hn := writ_len hw
  have hf : GrpsFrom u 0 gs := GrpsFrom.pre gs t 0 (by rw [ht]; exact grpsGo_from _ _)
  obtain ⟨h1, h2, _, _⟩ := grpsFold_ok (u := u) (live := liveL u) (h := (houL u k).out) (k := k) gs 0 ⟨argLoads (houL u k).out u.args.toNat, List.replicate u.code.length 0⟩ hf List.length_replicate
  refine ⟨?_, h2⟩
  unfold wriTo
  rw [h1, List.length_append]
  have h3 := grps_len hw (liveL u) (houL u k).out k gs 0 (fun g hg => by rw [← ht]; exact List.mem_append_left _ hg) hf (Nat.zero_le _)
  have h4 := argLoads_len (houL u k).out u.args.toNat
  show (argLoads (houL u k).out u.args.toNat).length + _ ≤ _
  omega
theorem repl_place {u : UntN} (hw : writB u = true) {j : Nat} (hj : j < u.code.length) (rd wr : Int → Int) {q : Int} (hq : placeO (replI (u.code.getD j ins0) rd wr) = some q) : 0 ≤ q ∧ q < u.code.length := by
  have ho := writ_ops hw _ (List.getElem_mem hj)
  rw [getD_in hj] at hq
  rw [place_repl rd wr ho] at hq
  exact plain_place (writ_plain hw) hj hq
/-- The places that are named in what is written. -/
theorem wri_places {u : UntN} (hw : writB u = true) (k : Nat) : ∀ y ∈ (wriL u k).code, ∀ q, placeO y = some q → 0 ≤ q ∧ q < u.code.length := by
  intro y hy q hq
  rw [(wri_ok k).1, List.mem_append] at hy
  rcases hy with hy | hy
  · unfold argLoads at hy
    obtain ⟨s, _, rfl⟩ := List.mem_map.1 hy
    cases hq
  · obtain ⟨g, hg, hy⟩ := List.mem_flatMap.1 hy
    have hok := groups_ok hw hg
    rcases grpCode_mem hy with ⟨a, b, rfl⟩ | ⟨a, b, rfl⟩ | ⟨j, rd, wr, hj, rfl⟩
    · cases hq
    · cases hq
    · exact repl_place hw (by have := hok.lt; have := hok.le; omega) rd wr hq
theorem groups_all (u : UntN) : GrpsAll u 0 (groupsL u) := grpsGo_all _ _ (by omega)
/-- Where the instructions are. -/
theorem wri_ats {u : UntN} (k : Nat) : ∀ y ∈ (wriL u k).ats, 0 ≤ y ∧ y ≤ (wriL u k).code.length := by
  intro y hy
  obtain ⟨h1, h2, h3⟩ := wri_ok (u := u) k
  obtain ⟨j, hj, rfl⟩ := List.getElem_of_mem hy
  have hj2 : j < u.code.length := by omega
  obtain ⟨p1, p2⟩ := (pos_ok (groupsL u) 0 _ (groups_all u) h3).1 j (Nat.zero_le _) hj2
  rw [getD_in hj] at p1 p2
  rw [h1, List.length_append]
  omega
theorem wri_ne {u : UntN} (hw : writB u = true) (k : Nat) : (wriL u k).code ≠ [] := by
  intro e
  have hp := (plain_leads (writ_plain hw)).1
  have h1 := (wri_ok (u := u) k).1
  rw [e] at h1
  have h2 : (groupsL u).flatMap (grpCode u (liveL u) (houL u k).out k) = [] := (List.append_eq_nil_iff.1 h1.symm).2
  have h3 := groups_all u
  cases hg : groupsL u with
  | nil =>
    rw [hg] at h3
    have : u.code.length ≤ 0 := h3
    omega
  | cons g gs =>
    have h4 := grpCode_len hw (show g ∈ groupsL u by rw [hg]; simp) (liveL u) (houL u k).out k
    rw [hg, List.flatMap_cons] at h2
    have := List.length_eq_zero_iff.2 (List.append_eq_nil_iff.1 h2).1
    omega

open Go.RowKit Go.Shelf
theorem getD_bd {l : List Int} {a b : Int} (h : ∀ x ∈ l, a ≤ x ∧ x ≤ b) (h0 : a ≤ 0 ∧ 0 ≤ b) (i : Nat) : a ≤ l.getD i 0 ∧ l.getD i 0 ≤ b := by
  by_cases hi : i < l.length
  · rw [getD_in hi]
    exact h _ (List.getElem_mem hi)
  · rw [List.getD_eq_getElem?_getD, List.getElem?_eq_none (by omega)]
    exact h0
theorem hou_bd {u : UntN} (hw : writB u = true) {k : Nat} (hk : k ≤ 200) (hcl : (houL u k).cells ≤ 200) : ∀ x ∈ (houL u k).out, -203 ≤ x ∧ x ≤ 200 := by
  intro x hx
  obtain ⟨t, ht, rfl⟩ := List.getElem_of_mem hx
  have hI := hou_all hw (k : Int)
  have ha := writ_args hw
  have h1 := hI.one t (by rw [← hI.len]; exact ht)
  rw [getD_in ht] at h1
  rcases h1 with ⟨_, h⟩ | ⟨_, h | ⟨h, h2⟩ | ⟨_, d, h2, h3, h4⟩⟩
  · omega
  · omega
  · omega
  · omega
theorem home_bd {u : UntN} (hw : writB u = true) {k : Nat} (hk : k ≤ 200) (hcl : (houL u k).cells ≤ 200) (s : Int) : -203 ≤ homeN (houL u k).out s ∧ homeN (houL u k).out s ≤ 200 :=
  getD_bd (hou_bd hw hk hcl) (by omega) _
theorem free_bd (h : List Int) {k : Nat} (hk : k ≤ 200) (l : List Int) : ∀ x ∈ freeL h k l, (0 : Int) ≤ x ∧ x ≤ 200 := fun x hx => by
  have := free_mem hx
  omega
theorem repl_b (x : InsN) (rd wr : Int → Int) : (replI x rd wr).b = x.b ∨ (replI x rd wr).b = rd x.b := by
  have hs : setR x.b rd = x.b ∨ setR x.b rd = rd x.b := by
    unfold setR
    split
    · exact .inr rfl
    · exact .inl rfl
  unfold replI
  split
  · exact .inl rfl
  · split
    · exact hs
    · split
      · exact hs
      · exact .inl rfl
theorem mov_b (t : List Int) (x : InsN) : (movI t x).b = x.b ∨ ∃ i, (movI t x).b = t.getD i 0 := by
  unfold movI
  split
  · exact .inl rfl
  · split
    · exact .inr ⟨_, rfl⟩
    · exact .inl rfl
/-- What is written, one by one. -/
theorem grpCode_cases {live : List (List Int)} {u : UntN} {h : List Int} {k : Nat} {g : GrpN} {x : InsN} (hx : x ∈ grpCode u live h k g) :
    (∃ a s, x = loadI a (-2 - homeN h s)) ∨ (∃ a, x = storeI a (wrTo h (freeL h k (grpBehind u live g)) g.wr)) ∨
    ∃ j, j < g.til + 1 - g.frm ∧ x = replI (u.code.getD (g.frm + j) ins0) (rdTo h (grpLoads h g) (freeL h k (grpBusy u live g))) (wrTo h (freeL h k (grpBehind u live g))) := by
  unfold grpCode at hx
  rcases List.mem_append.1 hx with hx | hx
  · obtain ⟨s, _, rfl⟩ := List.mem_map.1 hx
    exact .inl ⟨_, s, rfl⟩
  · rcases List.mem_append.1 hx with hx | hx
    · obtain ⟨j, hj, rfl⟩ := List.mem_map.1 hx
      exact .inr (.inr ⟨j, List.mem_range.1 hj, rfl⟩)
    · split at hx
      · rw [List.mem_singleton.1 hx]
        exact .inr (.inl ⟨_, rfl⟩)
      · cases hx
/-- The second numbers of what is written. -/
theorem regU_bd {u : UntN} (hw : writB u = true) {k : Nat} (hk : k ≤ 200) (hcl : (houL u k).cells ≤ 200) (hc6 : (wriL u k).code.length ≤ 600) (hb : ∀ y ∈ u.code, -9223372036854775808 ≤ y.b ∧ y.b ≤ 9223372036854775807) :
    ∀ y ∈ (regU u k (wriL u k)).code, -9223372036854775808 ≤ y.b ∧ y.b ≤ 9223372036854775807 := by
  intro y hy
  have hy : y ∈ (wriL u k).code.map (movI (wriL u k).ats) := hy
  obtain ⟨x, hx, rfl⟩ := List.mem_map.1 hy
  have ha := writ_args hw
  have hats : ∀ i, (0 : Int) ≤ (wriL u k).ats.getD i 0 ∧ (wriL u k).ats.getD i 0 ≤ 600 := getD_bd (fun z hz => ⟨(wri_ats k z hz).1, by have := (wri_ats k z hz).2; omega⟩) (by omega)
  have hh := home_bd hw hk hcl
  have hrd : ∀ (loads l : List Int) s, (-203 : Int) ≤ rdTo (houL u k).out loads (freeL (houL u k).out k l) s ∧ rdTo (houL u k).out loads (freeL (houL u k).out k l) s ≤ 200 := fun loads l s => by
    unfold rdTo
    split
    · exact hh s
    · have := getD_bd (free_bd (houL u k).out hk l) (by omega) (loads.idxOf s)
      unfold inTmp
      omega
  have hwr : ∀ (l : List Int) s, (-203 : Int) ≤ wrTo (houL u k).out (freeL (houL u k).out k l) s ∧ wrTo (houL u k).out (freeL (houL u k).out k l) s ≤ 200 := fun l s => by
    unfold wrTo
    split
    · exact hh s
    · have := getD_bd (free_bd (houL u k).out hk l) (by omega) 0
      omega
  have hxb : -9223372036854775808 ≤ x.b ∧ x.b ≤ 9223372036854775807 := by
    rw [(wri_ok k).1, List.mem_append] at hx
    rcases hx with hx | hx
    · unfold argLoads at hx
      obtain ⟨s, hs, rfl⟩ := List.mem_map.1 hx
      have := List.mem_range.1 (List.mem_filter.1 hs).1
      show _ ≤ (s : Int) ∧ (s : Int) ≤ _
      omega
    · obtain ⟨g, hg, hx⟩ := List.mem_flatMap.1 hx
      have hok := groups_ok hw hg
      rcases grpCode_cases hx with ⟨a, s, rfl⟩ | ⟨a, rfl⟩ | ⟨j, hj, rfl⟩
      · have := hh s
        show _ ≤ -2 - homeN (houL u k).out s ∧ -2 - homeN (houL u k).out s ≤ _
        omega
      · have := hwr (grpBehind u (liveL u) g) g.wr
        show _ ≤ wrTo _ _ _ ∧ wrTo _ _ _ ≤ _
        omega
      · have hin : g.frm + j < u.code.length := by have := hok.lt; have := hok.le; omega
        rcases repl_b (u.code.getD (g.frm + j) ins0) (rdTo (houL u k).out (grpLoads (houL u k).out g) (freeL (houL u k).out k (grpBusy u (liveL u) g))) (wrTo (houL u k).out (freeL (houL u k).out k (grpBehind u (liveL u) g))) with e | e
        · rw [e, getD_in hin]
          exact hb _ (List.getElem_mem hin)
        · rw [e]
          have := hrd (grpLoads (houL u k).out g) (grpBusy u (liveL u) g) (u.code.getD (g.frm + j) ins0).b
          omega
  rcases mov_b (wriL u k).ats x with e | ⟨i, e⟩
  · rw [e]; exact hxb
  · rw [e]
    have := hats i
    omega
end Go.Proofs.YtgalekifgnecjaaGreat
