/- The list of a set; the lists of sets. A row of lists; mapped: the lists of sets. -/
import Derived.Test.YtgalekifgnecjaaGreatM2
import Derived.Test.YtgalekifgnecjaaGreatD3
namespace Go.Proofs.YtgalekifgnecjaaGreat
open Go.RowKit

open Go.RowKit Go.Shelf
attribute [local go_sem] Oper.semAt_some
theorem filter_ne_lt {x : Int} : ∀ {l : List Int}, x ∈ l → (l.filter (· != x)).length < l.length
  | [], h => absurd h (by simp)
  | y :: l, h => by
    by_cases e : y = x
    · subst e
      have := List.length_filter_le (· != y) l
      simp only [List.filter_cons, bne_self_eq_false, Bool.false_eq_true, if_false, List.length_cons]
      omega
    · have h1 : x ∈ l := by
        rcases List.mem_cons.1 h with e1 | e1
        · exact absurd e1.symm e
        · exact e1
      have := filter_ne_lt h1
      have h2 : (y != x) = true := by simp [e]
      simp only [List.filter_cons, h2, if_true, List.length_cons]
      omega
/-- What a loop over a set has come to. -/
structure LsI (w : World) (v : Value) (S L acc : List Int) (s : Value) (wr : World) : Prop where
  own : OwnI wr (w.heap.size + 1) s acc
  hb : Below w.heap.size w wr
  rng : RngV wr w.heap.size v S L
  nd : acc.Nodup
  mem : ∀ x, x ∈ acc ↔ x ∈ S ∧ x ∉ L
  len : acc.length ≤ 1000000
theorem nodup_sub_len : ∀ {l m : List Int}, l.Nodup → (∀ x ∈ l, x ∈ m) → l.length ≤ m.length
  | [], _, _, _ => Nat.zero_le _
  | x :: l, m, hn, h => by
    obtain ⟨n1, n2⟩ := List.nodup_cons.1 hn
    have h1 := nodup_sub_len (m := m.filter (· != x)) n2 (fun y hy => List.mem_filter.2 ⟨h y (by simp [hy]), by have : y ≠ x := fun e => n1 (e ▸ hy); simpa using this⟩)
    have h2 := filter_ne_lt (h x (by simp))
    simp only [List.length_cons]
    omega
theorem nodup_len {acc S : List Int} (hn : acc.Nodup) (hs : ∀ x ∈ acc, x ∈ S) (hS : SortedL S) (hb : ∀ x ∈ S, 0 ≤ x ∧ x < 1000000) : acc.length ≤ 1000000 := by
  have h1 : acc.length ≤ S.length := nodup_sub_len hn hs
  have h2 := sorted_len (a := 0) (n := 1000000) hS hb
  omega
theorem LsI.room {w wr : World} {v s : Value} {S L acc : List Int} {x : Int} (h : LsI w v S L acc s wr) (hS : SetV w v S) (hx : x ∈ L) : acc.length + 1 ≤ 1000000 := by
  have hxS : x ∈ S := h.rng.sub x hx
  have hxa : x ∉ acc := fun e => ((h.mem x).1 e).2 hx
  have hnd : (acc ++ [x]).Nodup := List.nodup_append.2 ⟨h.nd, by simp, fun a ha b hb' e => hxa (by rw [List.mem_singleton.1 hb'] at e; exact e ▸ ha)⟩
  have := nodup_len hnd (fun y hy => by
    rcases List.mem_append.1 hy with h1 | h1
    · exact ((h.mem y).1 h1).1
    · rw [List.mem_singleton.1 h1]; exact hxS) hS.so hS.bd
  simpa using this
theorem LsI.next {w wr w2 w5 : World} {v s v' : Value} {S L acc : List Int} {x : Int} (h : LsI w v S L acc s wr) (hS : SetV w v S) (hx : x ∈ L) (hr : RngV w2 w.heap.size v S (L.filter (· != x))) (hb : Below w.heap.size w w2)
    (ho : OwnI w5 (w.heap.size + 1) v' (acc ++ [x])) (hg : (w2.alloc (.cells #[.int .i64 x] 3)).grownBy w5 s.ownBlock) : LsI w v S (L.filter (· != x)) (acc ++ [x]) v' w5 := by
  have hsz := hb.size
  have hob := own_ge h.own
  have hxS : x ∈ S := h.rng.sub x hx
  have hxa : x ∉ acc := fun e => ((h.mem x).1 e).2 hx
  have hnd : (acc ++ [x]).Nodup := List.nodup_append.2 ⟨h.nd, by simp, fun a ha b hb' e => hxa (by rw [List.mem_singleton.1 hb'] at e; exact e ▸ ha)⟩
  have hm : ∀ y, y ∈ acc ++ [x] ↔ y ∈ S ∧ y ∉ L.filter (· != x) := fun y => by
    rw [List.mem_append, List.mem_singleton, h.mem y, List.mem_filter]
    by_cases e : y = x
    · subst e
      simp [hxS]
    · simp [e]
  refine ⟨ho, (hb.alloc hsz _).grown hg (by simp; omega) (fun r e => by have := hob r e; omega), ?_, hnd, hm, nodup_len hnd (fun y hy => ((hm y).1 hy).1) hS.so hS.bd⟩
  refine (hr.below (bnew w2 _)).kept hg (fun e => by have := hob _ e.symm; omega) (fun b e e2 => ?_)
  have h1 := hob b e2.symm
  rcases hS with ⟨e1, _⟩ | ⟨b', e1, h2⟩
  · rw [e] at e1; cases e1
  · rw [e] at e1
    cases e1
    have := h2.lt
    omega
set_option maxRecDepth 100000 in
set_option maxHeartbeats 2000000 in
theorem list_any (v : Value) (S : List Int) (w : World) (hs : SetV w v S) : Calls Tryz.prog 177 #[v] w (OwnRet S w) := by
  have HS := hid hs; clear hs
  have hvl : ∀ b, v = .map (some b) → b < w.heap.size := by
    intro b e
    rcases HS.out with ⟨e1, _⟩ | ⟨b', e1, h⟩
    · rw [e] at e1; cases e1
    · rw [e] at e1; cases e1; exact h.lt
  have HVL := hid hvl; clear hvl
  go_enter Tryz.func177, Tryz.ntmps177
  go_wp2_with (first
    | (at_range; refine wpList_set_range _ rfl _ rfl v S rfl HS.out ?_; intro w1 hr1 hg1 hz1; have HR1 := hid hr1; have HG1 := hid hg1; clear hr1 hg1 hz1))
  go_frame
  go_loopg [3] S.length (fun gh s3 wr => ∃ L acc : List Int, gh = 0 + L.length ∧ Hid (LsI w v S L acc s3 wr))
  case atStart => 
    refine ⟨S, [], by omega, hid ⟨World.ownsRow_nil _ _ _ _, ?_, HR1.out, .nil, by simp, by simp⟩⟩
    exact ⟨HG1.out.os, HG1.out.tape, HG1.out.output, HG1.out.size, fun k hk => HG1.out.block k hk (by simp)⟩
  case round =>
    obtain ⟨L, acc, rfl, HQ⟩ := hrel
    go_wp2_with (first
      | (at_next; refine wpList_set_next _ rfl _ rfl _ v S L rfl HQ.out.rng ?_ ?_))
    · intro h0
      subst h0
      have HM := hid (fun x => (HQ.out.mem x).trans (by simp : x ∈ S ∧ x ∉ ([] : List Int) ↔ x ∈ S))
      have HSO := hid (sort_any (w.heap.size + 1) _ acc S wr HQ.out.own HQ.out.nd HM.out HS.out.so HQ.out.len)
      have HOB := hid (own_ge HQ.out.own)
      have HB := hid HQ.out.hb
      clear HQ HM
      go_wp2_with (first
        | (go_at_call 216; (with_reducible refine HSO.out.mono ?_); rintro e w3 ⟨rfl, ho, hg⟩; have HO := hid ho; have HG := hid hg; clear ho hg))
      go_ret
      exact ⟨HB.out.grown HG.out HB.out.size (fun r e => by have := HOB.out r e; omega), _, rfl, OwnI.mono HO.out (by omega)⟩
    · intro x w2 hx hr2 hg2 hz2 hen
      have HX := hid hx
      have HR2 := hid hr2
      have HG2 := hid hg2
      clear hx hr2 hg2 hz2
      have HOB := hid (own_ge HQ.out.own)
      have HO2 : Hid (OwnI w2 (w.heap.size + 1) u3 acc) := hid (own_later HQ.out.own (fun b e hb => HG2.out.block b hb (fun e2 => by cases e2; have := HOB.out _ e; omega)))
      have HB2 : Hid (Below w.heap.size w w2) := hid (HQ.out.hb.grown HG2.out HQ.out.hb.size (fun r e => by cases e; exact Nat.le_refl _))
      have HNX := hid (fun v' w5 ho hg => HQ.out.next HS.out HX.out HR2.out HB2.out (v' := v') (w5 := w5) ho hg)
      have hal := HQ.out.room HS.out HX.out
      have hsz := HB2.out.size
      clear HQ
      go_wp2_with (at_builtin; refine wpList_append_ints _ rfl _ _ rfl (w.heap.size + 1) _ _ [x] rfl (OwnI.later HO2.out (bnew _ _)) (some ⟨_, 0, none⟩) 1 rfl (rd_one _ _ _) (by simp; omega) (by simp; omega) ?_; intro v' w5 hown' hgrow hnil)
      go_roundg (0 + (L.filter (· != x)).length)
      case measure => have := filter_ne_lt HX.out; omega
      case rel => exact ⟨_, _, rfl, hid (HNX.out _ _ hown' hgrow)⟩

/-- A slice of numbers, as a value. -/
structure SlcV where
  a : Option Addr
  n : Nat
  c : Nat
def SlcV.v (x : SlcV) : Value := .slice x.a x.n x.c
def encL : Enc SlcV := ⟨1, fun x => [.slice x.a x.n x.c], fun _ => rfl, fun x u hu => by simp at hu; subst hu; rfl, by decide⟩
theorem st95 : SlT encL 95 28 := ⟨Tryz.underlying95, .slice none 0 0, 24, by kernel_rfl, rfl, by decide⟩
/-- A row of lists of the call's own. -/
def OwnLL (w : World) (base : Nat) (v : Value) (L : List (List Int)) : Prop :=
  ∃ xs : List SlcV, OwnX encL 28 w base v xs ∧ xs.length = L.length ∧ ∀ i (h : i < xs.length) (h2 : i < L.length), OwnI w base (.slice xs[i].a xs[i].n xs[i].c) L[i]
theorem OwnLL.nil (w : World) (base : Nat) : OwnLL w base (.slice none 0 0) [] := ⟨[], OwnX.nil _ _ _, rfl, fun _i h _ => absurd h (Nat.not_lt_zero _)⟩
theorem OwnLL.later {w w' : World} {base : Nat} {v : Value} {L : List (List Int)} (h : OwnLL w base v L) (hb : Below w.heap.size w w') : OwnLL w' base v L := by
  obtain ⟨xs, h1, h2, h3⟩ := h
  exact ⟨xs, h1.later hb, h2, fun i a b => (h3 i a b).later hb⟩
theorem own_ne {w : World} {base base' : Nat} {v u : Value} {xs : List SlcV} {l : List Int} (h : OwnX encL 28 w base v xs) (h' : OwnI w base' u l) : ∀ b, u.ownBlock = some b → v.ownBlock ≠ some b := by
  intro b e e'
  rcases h.2 with ⟨rfl, _⟩ | ⟨g, cap, cur, rfl, _, hg, _⟩
  · cases e'
  · cases e'
    rcases h'.2 with ⟨rfl, _⟩ | ⟨g', cap', cur', rfl, _, hg', _⟩
    · cases e
    · cases e
      rw [hg] at hg'
      cases hg'
/-- A list more. -/
theorem OwnLL.push {w0 w w' : World} {base : Nat} {v v' : Value} {xs : List SlcV} {x : SlcV} {L : List (List Int)} {l : List Int} (_h : Below w0.heap.size w0 w) (h1 : OwnX encL 28 w base v xs) (h2 : xs.length = L.length) (h3 : ∀ i (h : i < xs.length) (h2 : i < L.length), OwnI w base (.slice xs[i].a xs[i].n xs[i].c) L[i])
    (hx : OwnI w base (.slice x.a x.n x.c) l) (ho : OwnX encL 28 w' base v' (xs ++ [x])) (hg : w.grownBy w' v.ownBlock) : OwnLL w' base v' (L ++ [l]) := by
  have hk : ∀ {u : Value} {m : List Int}, OwnI w base u m → OwnI w' base u m := fun hu => own_later hu (fun b e hb => hg.block b hb (fun e2 => own_ne h1 hu b e e2.symm))
  refine ⟨xs ++ [x], ho, by simp [h2], fun i a b => ?_⟩
  by_cases hi : i < xs.length
  · have e1 : (xs ++ [x])[i] = xs[i] := List.getElem_append_left hi
    have e2 : (L ++ [l])[i] = L[i]'(by omega) := List.getElem_append_left (by omega)
    rw [e1, e2]
    exact hk (h3 i hi (by omega))
  · have hi2 : i = xs.length := by simp at a; omega
    subst hi2
    have e1 : (xs ++ [x])[xs.length] = x := by simp
    have e2 : (L ++ [l])[xs.length]'b = l := by simp [h2]
    rw [e1, e2]
    exact hk hx
def OwnRetLL (L : List (List Int)) (w : World) (e : Ending) (w' : World) : Prop := Below w.heap.size w w' ∧ ∃ v, e = .returned v ∧ OwnLL w' w.heap.size v L
/-- A row of sets, read off a slice. -/
def RdS (w : World) (a : Option Addr) (L : List (List Int)) : Prop :=
  ∀ i (h : i < L.length), ∃ b off v, a = some ⟨b, off, none⟩ ∧ b < w.heap.size ∧ w.cell? ⟨b, off + i, none⟩ = some v ∧ SetV w v L[i]
theorem RdS.below {w w' : World} {a : Option Addr} {L : List (List Int)} (h : RdS w a L) (hb : Below w.heap.size w w') : RdS w' a L := by
  intro i hi
  obtain ⟨b, off, v, ha, hlt, hc, hs⟩ := h i hi
  exact ⟨b, off, v, ha, Nat.lt_of_lt_of_le hlt hb.size, cell_later hb hc, hs.below hb⟩
set_option maxRecDepth 100000 in
set_option maxHeartbeats 2000000 in
theorem mappedS_any (L : List (List Int)) (a : Option Addr) (cap : Nat) (w : World) (hl : RdS w a L) (hll : L.length ≤ 1000000) :
    Calls Tryz.prog 176 #[.slice a L.length cap, .func (.func 177) #[] #[]] w (OwnRetLL L w) := by
  have HL := hid hl; clear hl
  go_enter Tryz.func176, Tryz.ntmps176
  go_wp2
  go_loopg [5, 10] L.length (fun gh s5 s10 wr => ∃ j : Nat, j ≤ L.length ∧ gh = L.length - j ∧ s10 = .int .i64 j ∧ Hid (OwnLL wr w.heap.size s5 (L.take j) ∧ Below w.heap.size w wr))
  case atStart => exact ⟨0, Nat.zero_le _, rfl, rfl, hid ⟨OwnLL.nil _ _, Below.refl _ _⟩⟩
  case round =>
    obtain ⟨j, hj, rfl, rfl, HQ⟩ := hrel
    by_cases hlj : j < L.length
    · obtain ⟨b2, off, v, ha, hlt2, hc, hs⟩ := (HL.out.below HQ.out.2) j hlj
      subst ha
      have nj : (j : Int) < (L.length : Int) := by omega
      have HT : Hid (L.take (j + 1) = L.take j ++ [L[j]]) := hid (take_last hlj)
      have HKG := hid (list_any v L[j] wr hs)
      clear hs
      generalize L[j] = l at *
      have HCC := hid fun (u : Value) (w' : World) (hb : Below wr.heap.size wr w') (ho : OwnI w' wr.heap.size u l) => (show ∃ (ua : Option Addr) (uc : Nat) (xs : List SlcV), u = .slice ua l.length uc ∧ OwnX encL 28 w' w.heap.size u5 xs ∧ xs.length = (L.take j).length ∧ (∀ i (h : i < xs.length) (h2 : i < (L.take j).length), OwnI w' w.heap.size (.slice xs[i].a xs[i].n xs[i].c) (L.take j)[i]) ∧ xs.length ≤ j ∧ OwnI w' w.heap.size u l from by
        obtain ⟨xs, h1, h2, h3⟩ := HQ.out.1.later hb
        obtain ⟨ua, uc, rfl, _⟩ := ho.rd
        exact ⟨ua, uc, xs, rfl, h1, h2, h3, by rw [h2, List.length_take]; omega, OwnI.mono ho HQ.out.2.size⟩)
      have HBQ := hid HQ.out.2
      go_wp2_with (first
        | (go_at_call 177; (with_reducible refine HKG.out.mono ?_); rintro e w' ⟨hb, u, rfl, ho⟩; obtain ⟨ua, uc, xs, rfl, h1, h2, h3, hlen, hox⟩ := HCC.out u w' hb ho; have HX1 := hid h1; have HX2 := hid h2; have HX3 := hid h3; have HB2 := hid (HBQ.out.step hb); have hsz := HB2.out.size; have HOX := hid hox; clear hb h1 h2 h3 ho hox)
        | (at_builtin; refine wpList_append_x st95 _ rfl _ _ rfl w.heap.size _ _ [(⟨ua, l.length, uc⟩ : SlcV)] rfl (OwnX.later HX1.out (bnew _ _)) (some ⟨_, 0, none⟩) 1 rfl (rdx_one (E := encL) _ ⟨ua, l.length, uc⟩ _) (by simp; omega) (by simp; omega) ?_; intro v' w5 hown' hgrow hnil))
      go_roundg (L.length - (j + 1))
      case measure => omega
      case rel =>
        refine ⟨j + 1, by omega, rfl, by go_num, hid ⟨?_, ((HB2.out).alloc (by omega) _).grown hgrow (by simp; omega) (own_ge HX1.out)⟩⟩
        rw [HT.out]
        exact OwnLL.push (HB2.out.step (bnew _ _)) (OwnX.later HX1.out (bnew _ _)) HX2.out (fun i p q => (HX3.out i p q).later (bnew _ _)) (HOX.out.later (bnew _ _)) hown' hgrow
    · obtain rfl : j = L.length := by omega
      go_wp2
      go_ret
      exact ⟨HQ.out.2, _, rfl, by have := HQ.out.1; rwa [List.take_length] at this⟩
end Go.Proofs.YtgalekifgnecjaaGreat
