/- The reader's group of package regs: what lies in memory while it goes on. -/
import Derived.Test.YtgalekifgnecjaaGreatT18
import Derived.Test.YtgalekifgnecjaaGreatT17
namespace Go.Proofs.YtgalekifgnecjaaGreat
open Go.RowKit Go.Shelf
theorem RdI.kept {w w' : World} {a : Option Addr} {l : List Int} {row : Option Nat} (h : RdI w a l) (hg : w.grownBy w' row) (hn : ∀ b off, a = some ⟨b, off, none⟩ → some b ≠ row) : RdI w' a l := by
  intro i hi
  obtain ⟨b, off, ha, hlt, hc⟩ := h i hi
  refine ⟨b, off, ha, Nat.lt_of_lt_of_le hlt hg.size, ?_⟩
  rw [← hc]
  unfold World.cell?
  rw [hg.block b hlt (hn b off ha)]
/-- What the check of a group comes to behind the loads. -/
def grpK (u v : UntN) (live : List (List Int)) (h at' : List Int) (g : GrpN) (lm : Nat × List (Int × Int)) : Option Nat :=
  (insGo u v h at' lm.2 (grpBehind u live g) g.frm (g.til + 1 - g.frm) lm.1).bind fun b =>
    if 0 ≤ g.wr ∧ homeN h g.wr ≤ -2 then nxtI v b (storeI (-2 - homeN h g.wr) ((v.code.getD (b - 1) ins0).a)) else some b
theorem grpChk_yes {u v : UntN} {live : List (List Int)} {h at' : List Int} {a : Nat} {g : GrpN} (h1 : at'.getD g.frm 0 = (a : Int)) :
    grpChk u v live h at' a g = (ldGo v h g.reads (grpBusy u live g) (v.code.length + 1) a [] []).bind (grpK u v live h at' g) := if_pos h1
theorem grpChk_no {u v : UntN} {live : List (List Int)} {h at' : List Int} {a : Nat} {g : GrpN} (h1 : at'.getD g.frm 0 ≠ (a : Int)) : grpChk u v live h at' a g = none := if_neg h1
/-- The numbers of the blocks of group. -/
structure GrZ (w0 w wa : World) (x : GrX) (b1 b4 b6 bm bh : Nat) (na : Option Addr) (nc : Nat) (N : List Int) (nb : Option Addr) (ncb : Nat) (NB : List Int) : Prop where
  z0 : w0.heap.size < b1
  z1 : b1 = w.heap.size ∧ b1 + 2 = wa.heap.size
  z4 : wa.heap.size ≤ b4 ∧ b4 < bm
  z6 : bm < b6 ∧ b6 < bh
  zN : ∀ b, (Value.slice na N.length nc).ownBlock = some b → b < bm
  zB : ∀ b, (Value.slice nb NB.length ncb).ownBlock = some b → b < bm
  zR : ∀ b off, x.a = some ⟨b, off, none⟩ → b < b1 ∧ b ≠ w0.heap.size
/-- What lies in memory. -/
structure GrL (w0 w wa : World) (r : RdrN) (x : GrX) (b1 b4 b6 bm bh : Nat) (na : Option Addr) (nc : Nat) (N : List Int) (nb : Option Addr) (ncb : Nat) (NB : List Int) (a : Nat) (S : List Int) (L : List (Int × Int)) (W : World) : Prop where
  hi : RI w0 r a W
  hg : w.grownBy W (some w0.heap.size)
  h1 : W.heap[b1]? = some (.cells #[.pointer (some ⟨w0.heap.size, 0, none⟩)] 177)
  h2 : W.heap[b1 + 1]? = some (.cells #[.int .i64 x.g.frm, .int .i64 x.g.til, .slice x.a x.g.reads.length x.c, .int .i64 x.g.wr] 107)
  h4 : W.heap[b4]? = some (.cells #[.slice na N.length nc] 28)
  h6 : W.heap[b6]? = some (.cells #[.map (some bm)] 120)
  hN : OwnI W wa.heap.size (.slice na N.length nc) N
  hB : OwnI W wa.heap.size (.slice nb NB.length ncb) NB
  hR : RdI W x.a x.g.reads
  hM : MapAt mkInts W bm L
  hH : SetAt W bh S
section
variable {w0 w wa : World} {r : RdrN} {x : GrX} {b1 b4 b6 bm bh : Nat} {na : Option Addr} {nc : Nat} {N : List Int} {nb : Option Addr} {ncb : Nat} {NB : List Int} {a : Nat} {S : List Int} {L : List (Int × Int)} {W W' : World}
theorem GrL.below (h : GrL w0 w wa r x b1 b4 b6 bm bh na nc N nb ncb NB a S L W) (hb : Below W.heap.size W W') : GrL w0 w wa r x b1 b4 b6 bm bh na nc N nb ncb NB a S L W' :=
  ⟨h.hi.below hb, gB_below h.hg hb, keepBox hb h.h1, keepBox hb h.h2, keepBox hb h.h4, keepBox hb h.h6, OwnI.later h.hN hb, OwnI.later h.hB hb, h.hR.below hb, h.hM.below hb, h.hH.below hb⟩
theorem GrL.next (h : GrL w0 w wa r x b1 b4 b6 bm bh na nc N nb ncb NB a S L W) (z : GrZ w0 w wa x b1 b4 b6 bm bh na nc N nb ncb NB) {a' : Nat} (hi : RI w0 r a' W') (hg : W.grownBy W' (some w0.heap.size)) : GrL w0 w wa r x b1 b4 b6 bm bh na nc N nb ncb NB a' S L W' := by
  have z0 := z.z0; have z1 := z.z1; have z4 := z.z4; have z6 := z.z6
  have kb : ∀ {b : Nat} {o : Obj}, W.heap[b]? = some o → w0.heap.size < b → W'.heap[b]? = some o := fun h1 h2 => box_kept hg h1 (fun e => by cases e; omega)
  exact ⟨hi, h.hg.andThen hg (fun j e => .inr e), kb h.h1 z0, kb h.h2 (by omega), kb h.h4 (by omega), kb h.h6 (by omega),
    h.hN.kept hg (fun b hb e => by cases e; have := own_ge h.hN _ hb; omega), h.hB.kept hg (fun b hb e => by cases e; have := own_ge h.hB _ hb; omega),
    h.hR.kept hg (fun b off ha e => by cases e; exact (z.zR _ _ ha).2 rfl), h.hM.kept hg (fun e => by cases e; omega), h.hH.kept hg (fun e => by cases e; omega)⟩
theorem GrL.putH (h : GrL w0 w wa r x b1 b4 b6 bm bh na nc N nb ncb NB a S L W) (z : GrZ w0 w wa x b1 b4 b6 bm bh na nc N nb ncb NB) {S' : List Int} (hH : SetAt W' bh S') (hg : W.grownBy W' (some bh)) : GrL w0 w wa r x b1 b4 b6 bm bh na nc N nb ncb NB a S' L W' := by
  have z0 := z.z0; have z1 := z.z1; have z4 := z.z4; have z6 := z.z6
  have kb : ∀ {b : Nat} {o : Obj}, W.heap[b]? = some o → b ≠ bh → W'.heap[b]? = some o := fun h1 h2 => box_kept hg h1 (fun e => by cases e; exact h2 rfl)
  exact ⟨h.hi.grown hg (fun k e => by cases e; omega), h.hg.andThen hg (fun j e => by cases e; exact .inl (by omega)), kb h.h1 (by omega), kb h.h2 (by omega), kb h.h4 (by omega), kb h.h6 (by omega),
    h.hN.kept hg (fun b hb e => by cases e; have := z.zN _ hb; omega), h.hB.kept hg (fun b hb e => by cases e; have := z.zB _ hb; omega),
    h.hR.kept hg (fun b off ha e => by cases e; have := (z.zR _ _ ha).1; omega), h.hM.kept hg (fun e => by cases e; omega), hH⟩
theorem GrL.putM (h : GrL w0 w wa r x b1 b4 b6 bm bh na nc N nb ncb NB a S L W) (z : GrZ w0 w wa x b1 b4 b6 bm bh na nc N nb ncb NB) {L' : List (Int × Int)} (hM : MapAt mkInts W' bm L') (hg : W.grownBy W' (some bm)) : GrL w0 w wa r x b1 b4 b6 bm bh na nc N nb ncb NB a S L' W' := by
  have z0 := z.z0; have z1 := z.z1; have z4 := z.z4; have z6 := z.z6
  have kb : ∀ {b : Nat} {o : Obj}, W.heap[b]? = some o → b ≠ bm → W'.heap[b]? = some o := fun h1 h2 => box_kept hg h1 (fun e => by cases e; exact h2 rfl)
  exact ⟨h.hi.grown hg (fun k e => by cases e; omega), h.hg.andThen hg (fun j e => by cases e; exact .inl (by omega)), kb h.h1 (by omega), kb h.h2 (by omega), kb h.h4 (by omega), kb h.h6 (by omega),
    h.hN.kept hg (fun b hb e => by cases e; have := z.zN _ hb; omega), h.hB.kept hg (fun b hb e => by cases e; have := z.zB _ hb; omega),
    h.hR.kept hg (fun b off ha e => by cases e; have := (z.zR _ _ ha).1; omega), hM, h.hH.kept hg (fun e => by cases e; omega)⟩
/-- The cells of the boxes. -/
theorem GrL.cells (h : GrL w0 w wa r x b1 b4 b6 bm bh na nc N nb ncb NB a S L W) :
    W.cell? ⟨b1, 0, none⟩ = some (.pointer (some ⟨w0.heap.size, 0, none⟩)) ∧ W.cell? ⟨b1 + 1, 0, none⟩ = some (.int .i64 x.g.frm) ∧ W.cell? ⟨b1 + 1, 1, none⟩ = some (.int .i64 x.g.til) ∧ W.cell? ⟨b1 + 1, 2, none⟩ = some (.slice x.a x.g.reads.length x.c) ∧ W.cell? ⟨b1 + 1, 3, none⟩ = some (.int .i64 x.g.wr) ∧
    W.cell? ⟨b4, 0, none⟩ = some (.slice na N.length nc) ∧ W.cell? ⟨b6, 0, none⟩ = some (.map (some bm)) := by
  obtain ⟨q0, q1, q2, q3⟩ := box4 h.h2
  exact ⟨cellO h.h1, q0, q1, q2, q3, cellO h.h4, cellO h.h6⟩
end
/-- The cell of the reader's place, of its registers, of the code that it reads, of the homes. -/
theorem RI.k17 {w0 w : World} {r : RdrN} {a : Nat} (h : RI w0 r a w) : w.cell? ⟨w0.heap.size, 17, none⟩ = some (.int .i64 a) := (cell_of_row _ _ 17 _ _ _ h.hr).trans rfl
theorem RI.k11 {w0 w : World} {r : RdrN} {a : Nat} (h : RI w0 r a w) : w.cell? ⟨w0.heap.size, 11, none⟩ = some (.int .i64 r.v.slots) := (cell_of_row _ _ 11 _ _ _ h.hr).trans rfl
theorem RI.k13 {w0 w : World} {r : RdrN} {a : Nat} (h : RI w0 r a w) : w.cell? ⟨w0.heap.size, 13, none⟩ = some (.slice r.da r.v.code.length r.dc) := (cell_of_row _ _ 13 _ _ _ h.hr).trans rfl
theorem RI.k15 {w0 w : World} {r : RdrN} {a : Nat} (h : RI w0 r a w) : w.cell? ⟨w0.heap.size, 15, none⟩ = some (.slice r.ha r.h.length r.hc) := (cell_of_row _ _ 15 _ _ _ h.hr).trans rfl
theorem RI.k16 {w0 w : World} {r : RdrN} {a : Nat} (h : RI w0 r a w) : w.cell? ⟨w0.heap.size, 16, none⟩ = some (.slice r.ta r.t.length r.tc) := (cell_of_row _ _ 16 _ _ _ h.hr).trans rfl
theorem RI.k5 {w0 w : World} {r : RdrN} {a : Nat} (h : RI w0 r a w) : w.cell? ⟨w0.heap.size, 5, none⟩ = some (.slice r.ca r.u.code.length r.cc) := (cell_of_row _ _ 5 _ _ _ h.hr).trans rfl
theorem RI.k7 {w0 w : World} {r : RdrN} {a : Nat} (h : RI w0 r a w) : w.cell? ⟨w0.heap.size, 7, none⟩ = some (.slice r.va (liveL r.u).length r.vc) := (cell_of_row _ _ 7 _ _ _ h.hr).trans rfl
theorem next_some {w0 : World} {r : RdrN} {a : Nat} {w : World} {x : InsN} (hm : RdrM w0 r) (h : RI w0 r a w) (ha : a ≤ 1000000) (hx : r.v.code[a]? = some x) :
    Calls Tryz.prog 217 #[.pointer (some ⟨w0.heap.size, 0, none⟩)] w (fun e w' => e = .returned (vI x) ∧ RI w0 r (a + 1) w' ∧ w.grownBy w' (some w0.heap.size)) := by
  refine (next_any w0 r a w hm h ha).mono ?_
  rintro e w' ⟨hg, hx2⟩
  rw [hx] at hx2
  exact ⟨hx2.1, hx2.2, hg⟩
theorem next_none {w0 : World} {r : RdrN} {a : Nat} {w : World} (hm : RdrM w0 r) (h : RI w0 r a w) (ha : a ≤ 1000000) (hx : r.v.code[a]? = none) :
    Calls Tryz.prog 217 #[.pointer (some ⟨w0.heap.size, 0, none⟩)] w (fun e w' => e = .panicked wrongP ∧ w.grownBy w' (some w0.heap.size)) := by
  refine (next_any w0 r a w hm h ha).mono ?_
  rintro e w' ⟨hg, hx2⟩
  rw [hx] at hx2
  exact ⟨hx2, hg⟩
theorem own_lt {w : World} {base : Nat} {v : Value} {l : List Int} (h : OwnI w base v l) : ∀ b, v.ownBlock = some b → b < w.heap.size := by
  intro b hb
  rcases h.2 with ⟨e1, _⟩ | ⟨g, cap, cur, e1, _, hh, _⟩
  · rw [e1] at hb
    cases hb
  · rw [e1] at hb
    cases hb
    exact lt_of_heap hh
theorem filter_pos {l : List Int} {p : Int → Bool} : (0 < (l.filter p).length) ↔ l.any p = true := by
  rw [List.length_pos_iff, ne_eq, List.filter_eq_nil_iff, List.any_eq_true]
  constructor
  · intro h
    by_cases hx : ∃ x ∈ l, p x = true
    · exact hx
    · exact absurd (fun x hx2 hp => hx ⟨x, hx2, hp⟩) h
  · rintro ⟨x, hx, hp⟩ h
    exact h x hx hp
/-- What the instructions of a group come to. -/
theorem ins_none {u v : UntN} {h at' : List Int} {m : List (Int × Int)} {behind : List Int} {frm a n : Nat} (hn : insGo u v h at' m behind frm n a = none) : ∀ {k : Nat}, n ≤ k → insGo u v h at' m behind frm k a = none
  | 0, h0 => by
    obtain rfl : n = 0 := by omega
    exact hn
  | k + 1, h0 => by
    by_cases e : n = k + 1
    · rw [← e]; exact hn
    · unfold insGo
      rw [ins_none hn (show n ≤ k by omega)]
      rfl
theorem ins_succ {u v : UntN} {h at' : List Int} {m : List (Int × Int)} {behind : List Int} {frm a b n : Nat} (hn : insGo u v h at' m behind frm n a = some b) : insGo u v h at' m behind frm (n + 1) a = insOne u v h at' m behind frm (frm + n) b := by
  unfold insGo
  rw [hn]
  rfl
theorem insOne_at {u v : UntN} {h at' : List Int} {m : List (Int × Int)} {behind : List Int} {frm i a : Nat} (hc : ¬ (i = frm ∨ at'.getD i 0 = (a : Int))) : insOne u v h at' m behind frm i a = none := by
  unfold insOne
  cases v.code[a]? with
  | none => rfl
  | some x => exact if_neg (fun h => hc h.1)
theorem insOne_end {u v : UntN} {h at' : List Int} {m : List (Int × Int)} {behind : List Int} {frm i a : Nat} (hc : v.code[a]? = none) : insOne u v h at' m behind frm i a = none := by
  unfold insOne
  rw [hc]
theorem insOne_no {u v : UntN} {h at' : List Int} {m : List (Int × Int)} {behind : List Int} {frm i a : Nat} {y : InsN} (hc : v.code[a]? = some y)
    (hr : ¬ ((∀ s ∈ readsL (u.code.getD i ins0), (rdChk h m s).isSome = true) ∧ (0 ≤ writesI (u.code.getD i ins0) → (wrChk v h behind y (writesI (u.code.getD i ins0))).isSome = true))) : insOne u v h at' m behind frm i a = none := by
  unfold insOne
  rw [hc]
  exact if_neg (fun h => hr ⟨fun s hs => List.all_eq_true.1 h.2.1 s hs, h.2.2.1⟩)
theorem insOne_ne {u v : UntN} {h at' : List Int} {m : List (Int × Int)} {behind : List Int} {frm i a : Nat} {y z : InsN} (hc : v.code[a]? = some y) (hz : z = replI (u.code.getD i ins0) (fun s => (rdChk h m s).getD 0) (fun s => (wrChk v h behind y s).getD 0)) (hne : y ≠ movI at' z) : insOne u v h at' m behind frm i a = none := by
  unfold insOne
  rw [hc]
  exact if_neg (fun h => hne (by rw [hz]; exact h.2.2.2))
theorem insOne_yes {u v : UntN} {h at' : List Int} {m : List (Int × Int)} {behind : List Int} {frm i a : Nat} {y z : InsN} (hc : v.code[a]? = some y) (h1 : i = frm ∨ at'.getD i 0 = (a : Int))
    (hr : (∀ s ∈ readsL (u.code.getD i ins0), (rdChk h m s).isSome = true) ∧ (0 ≤ writesI (u.code.getD i ins0) → (wrChk v h behind y (writesI (u.code.getD i ins0))).isSome = true))
    (hz : z = replI (u.code.getD i ins0) (fun s => (rdChk h m s).getD 0) (fun s => (wrChk v h behind y s).getD 0)) (he : y = movI at' z) : insOne u v h at' m behind frm i a = some (a + 1) := by
  unfold insOne
  rw [hc]
  exact if_pos ⟨h1, List.all_eq_true.2 hr.1, hr.2, by rw [← hz]; exact he⟩
theorem replI_op (x : InsN) (rd wr : Int → Int) : (replI x rd wr).op = x.op := by
  unfold replI
  split
  · rfl
  · split
    · rfl
    · split <;> rfl
theorem replI_place (x : InsN) (rd wr : Int → Int) : placeO (replI x rd wr) = placeO x := by
  unfold placeO
  rw [replI_op]
  cases h24 : (x.op == 24) with
  | true =>
    have e : x.op = 24 := by simpa using h24
    rw [if_pos rfl, if_pos rfl]
    unfold replI
    rw [e, if_neg (by decide), if_neg (by decide), if_neg (by decide)]
    have hf : (formL 24).wr = 0 := by decide
    have hw : ¬ 0 ≤ writesI x := by unfold writesI; rw [e, if_pos hf]; omega
    rw [if_neg hw]
  | false =>
    simp only [Bool.false_eq_true, if_false]
    cases h2 : (x.op == 25 || x.op == 32) with
    | false => rfl
    | true =>
      simp only [if_true]
      have hA : rdA.contains x.op = true := by
        simp only [Bool.or_eq_true, beq_iff_eq] at h2
        rcases h2 with e | e <;> rw [e] <;> decide
      unfold replI
      rw [if_pos hA]
theorem place_in {u : UntN} (hp : plainB u = true) {t : Nat} (ht : t < u.code.length) {p : Int} (h : placeO u.code[t] = some p) : 0 ≤ p ∧ p < u.code.length := by
  refine bySelf_in hp ht p ?_
  rw [bySelf_eq, addL_mem, getD_in ht]
  right
  rw [h]
  exact List.mem_singleton.2 rfl
section
variable {w0 w wa : World} {r : RdrN} {x : GrX} {b1 b4 b6 bm bh : Nat} {na : Option Addr} {nc : Nat} {N : List Int} {nb : Option Addr} {ncb : Nat} {NB : List Int} {a : Nat} {S : List Int} {L : List (Int × Int)} {W W' : World}
theorem GrL.own (h : GrL w0 w wa r x b1 b4 b6 bm bh na nc N nb ncb NB a S L W) (z : GrZ w0 w wa x b1 b4 b6 bm bh na nc N nb ncb NB) {c : Nat} (hc : bh < c) (hg : W.grownBy W' (some c)) : GrL w0 w wa r x b1 b4 b6 bm bh na nc N nb ncb NB a S L W' := by
  have z0 := z.z0; have z1 := z.z1; have z4 := z.z4; have z6 := z.z6
  have kb : ∀ {b : Nat} {o : Obj}, W.heap[b]? = some o → b ≠ c → W'.heap[b]? = some o := fun h1 h2 => box_kept hg h1 (fun e => by cases e; exact h2 rfl)
  exact ⟨h.hi.grown hg (fun k e => by cases e; omega), h.hg.andThen hg (fun j e => by cases e; exact .inl (by omega)), kb h.h1 (by omega), kb h.h2 (by omega), kb h.h4 (by omega), kb h.h6 (by omega),
    h.hN.kept hg (fun b hb e => by cases e; have := z.zN _ hb; omega), h.hB.kept hg (fun b hb e => by cases e; have := z.zB _ hb; omega),
    h.hR.kept hg (fun b off ha e => by cases e; have := (z.zR _ _ ha).1; omega), h.hM.kept hg (fun e => by cases e; omega), h.hH.kept hg (fun e => by cases e; omega)⟩
end
theorem movI_24 (t : List Int) (A B C : Int) : movI t ⟨24, A, B, C⟩ = ⟨24, t.getD A.toNat 0, B, C⟩ := rfl
theorem movI_b (t : List Int) {op : Int} (h : op = 25 ∨ op = 32) (A B C : Int) : movI t ⟨op, A, B, C⟩ = ⟨op, A, t.getD B.toNat 0, C⟩ := by
  rcases h with rfl | rfl <;> rfl
theorem movI_no (t : List Int) {x : InsN} (h1 : x.op ≠ 24) (h2 : x.op ≠ 25) (h3 : x.op ≠ 32) : movI t x = x := by
  unfold movI
  rw [if_neg (by simpa using h1), if_neg (by simp [h2, h3])]
end Go.Proofs.YtgalekifgnecjaaGreat
