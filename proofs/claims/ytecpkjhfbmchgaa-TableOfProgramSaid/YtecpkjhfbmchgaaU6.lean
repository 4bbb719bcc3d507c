/- The iterator leads of package core: what it yields, whatever the loop's body does to its own blocks. -/
import Derived.Test.YtecpkjhfbmchgaaU1
import Derived.RangeFuncNested
import Derived.RangeFuncBound
import Derived.RangeFuncCalls
import Derived.RangeFuncLeaves
import Derived.Shelf.Abstract
import Derived.Shelf.RegionOpen
import Derived.OwnWalkIn
import Derived.TacticsInMore
import Derived.LoopNIn
import Derived.LoopIn
namespace Go.Proofs.Ytecpkjhfbmchgaa
open Go.RowKit Go.Shelf
attribute [local go_sem] Oper.semAt_some

/-- Whatever cells lay outside the blocks O lie as they lay. -/
structure KeepBut (O : Nat → Prop) (W W' : World) : Prop where
  os : W'.os = W.os
  tape : W'.tape = W.tape
  output : W'.output = W.output
  size : W.heap.size ≤ W'.heap.size
  same : ∀ (k : Nat) (o : Obj), ¬ O k → W.heap[k]? = some o → o.isCells = true → W'.heap[k]? = some o
theorem KeepBut.refl (O : Nat → Prop) (W : World) : KeepBut O W W := ⟨rfl, rfl, rfl, Nat.le_refl _, fun _ _ _ h _ => h⟩
theorem KeepBut.trans {O : Nat → Prop} {A B C : World} (h : KeepBut O A B) (k : KeepBut O B C) : KeepBut O A C :=
  ⟨k.os.trans h.os, k.tape.trans h.tape, k.output.trans h.output, Nat.le_trans h.size k.size, fun i o hn hi ho => k.same i o hn (h.same i o hn hi ho) ho⟩
theorem KeepBut.of_below {O : Nat → Prop} {W W' : World} (h : Below W.heap.size W W') : KeepBut O W W' :=
  ⟨h.os, h.tape, h.output, h.size, fun k _o _ hk _ => (h.block k (Array.getElem?_eq_some_iff.1 hk).1).trans hk⟩
theorem KeepBut.cell {O : Nat → Prop} {W W' : World} (h : KeepBut O W W') {b off : Nat} {v : Value} (hn : ¬ O b) (hc : W.cell? ⟨b, off, none⟩ = some v) : W'.cell? ⟨b, off, none⟩ = some v := by
  have hb : b < W.heap.size := block_lt_of_cell hc
  have hh : W.heap[b]? = some W.heap[b] := Array.getElem?_eq_getElem hb
  have hcs : W.heap[b].isCells = true := by
    unfold World.cell? at hc
    rw [show (⟨b, off, none⟩ : Addr).block = b from rfl] at hc
    cases ho : W.heap[b] <;> simp [hh, ho, Obj.isCells] at hc ⊢
  have h2 := h.same b _ hn hh hcs
  rw [← hc]
  exact World.cell?_of_block (w := W) (h2.trans hh.symm)
theorem keep_b {O : Nat → Prop} {w : World} (W : World) (l : Nat) (o o' : Obj) (_ : w.heap.size ≤ l) (h : W.heap[l]? = some o) (ho : o.isCells = false) (_ : o.isWalk = false) : KeepBut O W (W.putObj l o') := by
  refine ⟨rfl, rfl, rfl, by simp [World.putObj], fun k o2 _ hk hc => ?_⟩
  have hne : k ≠ l := fun e => by
    subst e
    rw [h] at hk
    cases hk
    rw [ho] at hc
    cases hc
  exact (World.putObj_heap_other hne).trans hk
/-- What a loop's body may do to cells: Mi W k: block k is not the body's; WF W: what the body's own blocks need. -/
structure Fenc (Mi : World → Nat → Prop) (WF : World → Prop) : Prop where
  below : ∀ A B, WF A → Below A.heap.size A B → WF B ∧ (∀ k, Mi A k → Mi B k) ∧ ∀ k, A.heap.size ≤ k → k < B.heap.size → Mi B k
  put : ∀ (W : World) (l : Nat) (o o' : Obj), W.heap[l]? = some o → o.isCells = false → WF W → WF (W.putObj l o') ∧ ∀ k, Mi W k → Mi (W.putObj l o') k
structure KeepM (Mi : World → Nat → Prop) (WF : World → Prop) (W W' : World) : Prop where
  wf : WF W'
  os : W'.os = W.os
  tape : W'.tape = W.tape
  output : W'.output = W.output
  size : W.heap.size ≤ W'.heap.size
  same : ∀ (k : Nat) (o : Obj), Mi W k → W.heap[k]? = some o → o.isCells = true → W'.heap[k]? = some o ∧ Mi W' k
/-- Between two rounds. -/
def KeepK (Mi : World → Nat → Prop) (WF : World → Prop) (W W' : World) : Prop := WF W → KeepM Mi WF W W'
section
variable {Mi : World → Nat → Prop} {WF : World → Prop}
theorem KeepM.refl {W : World} (h : WF W) : KeepM Mi WF W W := ⟨h, rfl, rfl, rfl, Nat.le_refl _, fun _ _ m h _ => ⟨h, m⟩⟩
theorem KeepM.trans {A B C : World} (h : KeepM Mi WF A B) (k : KeepM Mi WF B C) : KeepM Mi WF A C :=
  ⟨k.wf, k.os.trans h.os, k.tape.trans h.tape, k.output.trans h.output, Nat.le_trans h.size k.size, fun i o hn hi ho => k.same i o (h.same i o hn hi ho).2 (h.same i o hn hi ho).1 ho⟩
theorem KeepK.trans {A B C : World} (h : KeepK Mi WF A B) (k : KeepK Mi WF B C) : KeepK Mi WF A C := fun hw => (h hw).trans (k (h hw).wf)
theorem KeepM.of_below (hF : Fenc Mi WF) {W W' : World} (hw : WF W) (h : Below W.heap.size W W') : KeepM Mi WF W W' :=
  ⟨(hF.below W W' hw h).1, h.os, h.tape, h.output, h.size, fun k _o m hk _ => ⟨(h.block k (Array.getElem?_eq_some_iff.1 hk).1).trans hk, (hF.below W W' hw h).2.1 k m⟩⟩
theorem Fenc.new (hF : Fenc Mi WF) {W W' : World} (hw : WF W) (h : Below W.heap.size W W') {k : Nat} (h1 : W.heap.size ≤ k) (h2 : k < W'.heap.size) : Mi W' k := (hF.below W W' hw h).2.2 k h1 h2
theorem KeepM.cellM {W W' : World} (h : KeepM Mi WF W W') {b off : Nat} {v : Value} (hn : Mi W b) (hc : W.cell? ⟨b, off, none⟩ = some v) : W'.cell? ⟨b, off, none⟩ = some v ∧ Mi W' b := by
  have hb : b < W.heap.size := block_lt_of_cell hc
  have hh : W.heap[b]? = some W.heap[b] := Array.getElem?_eq_getElem hb
  have hcs : W.heap[b].isCells = true := by
    unfold World.cell? at hc
    rw [show (⟨b, off, none⟩ : Addr).block = b from rfl] at hc
    cases ho : W.heap[b] <;> simp [hh, ho, Obj.isCells] at hc ⊢
  have h2 := h.same b _ hn hh hcs
  refine ⟨?_, h2.2⟩
  rw [← hc]
  exact World.cell?_of_block (w := W) (h2.1.trans hh.symm)
theorem KeepM.cell {W W' : World} (h : KeepM Mi WF W W') {b off : Nat} {v : Value} (hn : Mi W b) (hc : W.cell? ⟨b, off, none⟩ = some v) : W'.cell? ⟨b, off, none⟩ = some v := (h.cellM hn hc).1
theorem KeepM.box {W W' : World} {b : Nat} {c : Array Value} {T : TypeId} (h : KeepM Mi WF W W') (hc : W.heap[b]? = some (.cells c T (0, 0)) ∧ Mi W b) : W'.heap[b]? = some (.cells c T (0, 0)) ∧ Mi W' b := h.same b _ hc.2 hc.1 rfl
theorem keep_k (hF : Fenc Mi WF) {w : World} (W : World) (l : Nat) (o o' : Obj) (_ : w.heap.size ≤ l) (h : W.heap[l]? = some o) (ho : o.isCells = false) (_ : o.isWalk = false) : KeepK Mi WF W (W.putObj l o') := by
  intro hw
  obtain ⟨h1, h2⟩ := hF.put W l o o' h ho hw
  refine ⟨h1, rfl, rfl, rfl, by simp [World.putObj], fun k o2 m hk hc => ⟨?_, h2 k m⟩⟩
  have hne : k ≠ l := fun e => by
    subst e
    rw [h] at hk
    cases hk
    rw [ho] at hc
    cases hc
  exact (World.putObj_heap_other hne).trans hk
end
end Go.Proofs.Ytecpkjhfbmchgaa
