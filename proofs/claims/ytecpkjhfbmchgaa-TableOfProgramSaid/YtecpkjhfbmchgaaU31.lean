/- CheckUnit of package core: what stands in its second loop. -/
import Derived.Test.YtecpkjhfbmchgaaU23
import Derived.Test.YtecpkjhfbmchgaaU29
namespace Go.Proofs.Ytecpkjhfbmchgaa
open Go.RowKit Go.Shelf

theorem fenc_all : Fenc (fun _ _ => True) (fun _ => True) := ⟨fun _ _ _ _ => ⟨trivial, fun _ _ => trivial, fun _ _ _ => trivial⟩, fun _ _ _ _ _ _ _ => ⟨trivial, fun _ _ => trivial⟩⟩
abbrev KB (W W' : World) : Prop := KeepBut (fun _ => False) W W'
theorem KB.keepM {W W' : World} (h : KB W W') : KeepM (fun _ _ => True) (fun _ => True) W W' := ⟨trivial, h.os, h.tape, h.output, h.size, fun k o _ hk ho => ⟨h.same k o (fun e => e) hk ho, trivial⟩⟩
theorem KB.below {W W' : World} (h : Below W.heap.size W W') : KB W W' := KeepBut.of_below h
theorem KB.box {W W' : World} {b : Nat} {c : Array Value} {T : TypeId} (h : KB W W') (hc : W.heap[b]? = some (.cells c T (0, 0))) : W'.heap[b]? = some (.cells c T (0, 0)) := h.same b _ (fun e => e) hc rfl
theorem KB.grown {W0 W W' : World} {row : Option Nat} (h : KB W0 W) (hg : W.grownBy W' row) (hr : ∀ r, row = some r → ∃ o : Obj, W.heap[r]? = some o ∧ o.isCells = false) : KB W0 W' :=
  ⟨hg.os.trans h.os, hg.tape.trans h.tape, hg.output.trans h.output, Nat.le_trans h.size hg.size, fun k o hn hk ho => (grown_cells hg hr (h.same k o hn hk ho) ho).trans (h.same k o hn hk ho)⟩
abbrev Low (W0 W : World) : Prop := ∀ (k : Nat) (o : Obj), k < W0.heap.size → W0.heap[k]? = some o → o.isCells = false → W.heap[k]? = some o
/-- Between two rounds of the inner loop. -/
structure CuJ (p : PrgN) (u : UntN) (w W0 : World) (pre : List (Int × Int)) (W : World) : Prop where
  no : ∀ x, x ∈ pre → jmpBad (headL p u.code) x = false
  kb : KB W0 W
  hb : Below w.heap.size w W
  low : Low W0 W
theorem CuJ.own {p : PrgN} {u : UntN} {w W0 : World} {pre : List (Int × Int)} {W W' : World} {row : Option Nat} (h : CuJ p u w W0 pre W) (hw : w.heap.size ≤ W0.heap.size) (hg : W.grownBy W' row) (hr : ∀ r, row = some r → W0.heap.size ≤ r ∧ ∃ o : Obj, W.heap[r]? = some o ∧ o.isCells = false) : CuJ p u w W0 pre W' :=
  ⟨h.no, h.kb.grown hg (fun r e => (hr r e).2), below_grownF h.hb hg h.hb.size (fun r e => Nat.le_trans hw (hr r e).1), low_grown h.low hg (fun r e => (hr r e).1)⟩
theorem CuJ.next {p : PrgN} {u : UntN} {w W0 : World} {pre : List (Int × Int)} {W W' : World} {x : Int × Int} (h : CuJ p u w W0 pre W) (hb : Below W.heap.size W W') (hx : jmpBad (headL p u.code) x = false) : KeepsOthers W W' ∧ KeepM (fun _ _ => True) (fun _ => True) W W' ∧ CuJ p u w W0 (pre ++ [x]) W' := by
  have ho := (Touch.below (S := fun _ => False) hb (Nat.le_refl _)).others
  refine ⟨ho, (KB.below hb).keepM, fun y hy => ?_, h.kb.trans (KB.below hb), h.hb.step hb, fun k o hk h1 h2 => ho.same k o (h.low k o hk h1 h2) h2⟩
  rcases List.mem_append.1 hy with h' | h'
  · exact h.no y h'
  · rw [List.mem_singleton.1 h']
    exact hx
/-- Where the inner loop has returned. -/
structure CuX (p : PrgN) (u : UntN) (w : World) (t : Nat) (W0 W : World) : Prop where
  bad : jmpB p u t = true
  x4 : W.heap[w.heap.size + 1 + 1]? = some (.cells #[.int .i64 2] 29)
  x5 : W.heap[w.heap.size + 1 + 1 + 1]? = some (.cells #[.int .i64 t] 3)
  hb : Below w.heap.size w W
  low : Low W0 W
theorem CuX.own {p : PrgN} {u : UntN} {w : World} {t : Nat} {W0 W W' : World} {row : Option Nat} (h : CuX p u w t W0 W) (hw : w.heap.size ≤ W0.heap.size) (hg : W.grownBy W' row) (hr : ∀ r, row = some r → W0.heap.size ≤ r ∧ ∃ o : Obj, W.heap[r]? = some o ∧ o.isCells = false) : CuX p u w t W0 W' :=
  have hc := fun {k : Nat} {o : Obj} => grown_cells hg (fun r e => (hr r e).2) (k := k) (o := o)
  ⟨h.bad, (hc h.x4 rfl).trans h.x4, (hc h.x5 rfl).trans h.x5, below_grownF h.hb hg h.hb.size (fun r e => Nat.le_trans hw (hr r e).1), low_grown h.low hg (fun r e => (hr r e).1)⟩
/-- The round returns. -/
theorem CuJ.stop {p : PrgN} {u : UntN} {w W0 : World} {pre : List (Int × Int)} {W : World} {t : Nat} {a1 a2 : Int} (h : CuJ p u w W0 pre W) (h4 : W.heap[w.heap.size + 1 + 1]? = some (.cells #[.int .i64 a1] 29 (0, 0))) (h5 : W.heap[w.heap.size + 1 + 1 + 1]? = some (.cells #[.int .i64 a2] 3 (0, 0))) (hb : jmpB p u t = true) :
    KeepsOthers W ((W.drew.setCell ⟨w.heap.size + 1 + 1, 0, none⟩ (.int .i64 2)).setCell ⟨w.heap.size + 1 + 1 + 1, 0, none⟩ (.int .i64 t)) ∧ CuX p u w t W0 ((W.drew.setCell ⟨w.heap.size + 1 + 1, 0, none⟩ (.int .i64 2)).setCell ⟨w.heap.size + 1 + 1 + 1, 0, none⟩ (.int .i64 t)) := by
  have ho : KeepsOthers W ((W.drew.setCell ⟨w.heap.size + 1 + 1, 0, none⟩ (.int .i64 2)).setCell ⟨w.heap.size + 1 + 1 + 1, 0, none⟩ (.int .i64 t)) := ((KeepsOthers.drew W).trans (KeepsOthers.setCell _ _ _)).trans (KeepsOthers.setCell _ _ _)
  have e4 : (W.drew.setCell ⟨w.heap.size + 1 + 1, 0, none⟩ (.int .i64 2)).heap[w.heap.size + 1 + 1]? = some (.cells #[.int .i64 2] 29 (0, 0)) := heap_setCell_same _ _ 0 #[.int .i64 a1] 29 (.int .i64 2) h4
  have e5 : (W.drew.setCell ⟨w.heap.size + 1 + 1, 0, none⟩ (.int .i64 2)).heap[w.heap.size + 1 + 1 + 1]? = some (.cells #[.int .i64 a2] 3 (0, 0)) := by
    rw [heap_setCell_other _ _ _ _ (by simp)]
    exact h5
  refine ⟨ho, hb, ?_, heap_setCell_same _ _ 0 #[.int .i64 a2] 3 (.int .i64 t) e5, (h.hb.drew.setCell (p := ⟨w.heap.size + 1 + 1, 0, none⟩) (by show w.heap.size ≤ w.heap.size + 1 + 1; omega) _).setCell (p := ⟨w.heap.size + 1 + 1 + 1, 0, none⟩) (by show w.heap.size ≤ w.heap.size + 1 + 1 + 1; omega) _, fun k o hk h1 h2 => ho.same k o (h.low k o hk h1 h2) h2⟩
  rw [heap_setCell_other _ _ _ _ (by simp)]
  exact e4
theorem headL_length (p : PrgN) (code : List InsN) : (headL p code).length = code.length := (hdU_length p code code.length).1
theorem jmpB_yes {p : PrgN} {u : UntN} {t : Nat} {x : Int × Int} (hx : x ∈ leadsL u t) (h : jmpBad (headL p u.code) x = true) : jmpB p u t = true := List.any_eq_true.2 ⟨x, hx, h⟩
theorem jmpB_no {p : PrgN} {u : UntN} {t : Nat} (h : ∀ x, x ∈ leadsL u t → jmpBad (headL p u.code) x = false) : jmpB p u t = false := by
  unfold jmpB
  rw [List.any_eq_false]
  intro x hx
  rw [h x hx]
  decide
/-- What stands at the head of the outer loop. -/
structure CuI (p : PrgN) (u : UntN) (w wT : World) (k : Nat) (Ds : List Nat) (wr : World) : Prop where
  le : k ≤ u.code.length
  no : ∀ j, j < k → jmpB p u j = false
  kb : KB wT wr
  hb : Below w.heap.size w wr
  ds : ∀ D, D ∈ Ds → w.heap.size ≤ D ∧ wr.heap[D]? = some (.deferred (some []))
  nd : Ds.Nodup
theorem CuI.ds_next {p : PrgN} {u : UntN} {w wT : World} {k : Nat} {Ds : List Nat} {wr W0 W : World} {D : Nat} (h : CuI p u w wT k Ds wr) (hb : Below wr.heap.size wr W0) (hl : Low W0 W) (hD : W0.heap.size ≤ D) (hd : W.heap[D]? = some (.deferred (some []))) (hw : w.heap.size ≤ W0.heap.size) :
    (∀ E, E ∈ D :: Ds → w.heap.size ≤ E ∧ W.heap[E]? = some (.deferred (some []))) ∧ (D :: Ds).Nodup := by
  have hs := hb.size
  refine ⟨fun E hE => ?_, List.nodup_cons.2 ⟨fun hm => ?_, h.nd⟩⟩
  · rcases List.mem_cons.1 hE with rfl | hm
    · exact ⟨by omega, hd⟩
    · obtain ⟨k1, k2⟩ := h.ds E hm
      have hlt := (Array.getElem?_eq_some_iff.1 k2).1
      exact ⟨k1, hl E _ (by omega) ((hb.block E hlt).trans k2) rfl⟩
  · have hlt := (Array.getElem?_eq_some_iff.1 (h.ds D hm).2).1
    omega
end Go.Proofs.Ytecpkjhfbmchgaa
