/- The iterator leads: what it yields. -/
import Derived.Test.YtgalekifgnecjaaGreatB1
import Derived.RangeFuncNested
import Derived.RangeFuncBound
import Derived.RangeFuncCalls
import Derived.RangeFuncLeaves
import Derived.Shelf.Abstract
import Derived.Shelf.RegionOpen
import Derived.OwnWalkIn
import Derived.TacticsInMore
import Derived.LoopNIn
import Derived.LoopIn
namespace Go.Proofs.YtgalekifgnecjaaGreat
open Go.RowKit Go.Shelf

attribute [local go_sem] Oper.semAt_some
/-- Whatever cells lay outside the blocks O lie as they lay. -/
structure KeepBut (O : Nat → Prop) (W W' : World) : Prop where
  os : W'.os = W.os
  tape : W'.tape = W.tape
  output : W'.output = W.output
  size : W.heap.size ≤ W'.heap.size
  same : ∀ (k : Nat) (o : Obj), ¬ O k → W.heap[k]? = some o → o.isCells = true → W'.heap[k]? = some o
theorem KeepBut.refl (O : Nat → Prop) (W : World) : KeepBut O W W := ⟨rfl, rfl, rfl, Nat.le_refl _, fun _ _ _ h _ => h⟩
theorem KeepBut.trans {O : Nat → Prop} {A B C : World} (h : KeepBut O A B) (k : KeepBut O B C) : KeepBut O A C :=
  ⟨k.os.trans h.os, k.tape.trans h.tape, k.output.trans h.output, Nat.le_trans h.size k.size, fun i o hn hi ho => k.same i o hn (h.same i o hn hi ho) ho⟩
theorem KeepBut.of_below {O : Nat → Prop} {W W' : World} (h : Below W.heap.size W W') : KeepBut O W W' :=
  ⟨h.os, h.tape, h.output, h.size, fun k _o _ hk _ => (h.block k (Array.getElem?_eq_some_iff.1 hk).1).trans hk⟩
theorem KeepBut.cell {O : Nat → Prop} {W W' : World} (h : KeepBut O W W') {b off : Nat} {v : Value} (hn : ¬ O b) (hc : W.cell? ⟨b, off, none⟩ = some v) : W'.cell? ⟨b, off, none⟩ = some v := by
  have hb : b < W.heap.size := block_lt_of_cell hc
  have hh : W.heap[b]? = some W.heap[b] := Array.getElem?_eq_getElem hb
  have hcs : W.heap[b].isCells = true := by
    unfold World.cell? at hc
    rw [show (⟨b, off, none⟩ : Addr).block = b from rfl] at hc
    cases ho : W.heap[b] <;> simp [hh, ho, Obj.isCells] at hc ⊢
  have h2 := h.same b _ hn hh hcs
  rw [← hc]
  exact World.cell?_of_block (w := W) (h2.trans hh.symm)
theorem keep_b {O : Nat → Prop} {w : World} (W : World) (l : Nat) (o o' : Obj) (_ : w.heap.size ≤ l) (h : W.heap[l]? = some o) (ho : o.isCells = false) (_ : o.isWalk = false) : KeepBut O W (W.putObj l o') := by
  refine ⟨rfl, rfl, rfl, by simp [World.putObj], fun k o2 _ hk hc => ?_⟩
  have hne : k ≠ l := fun e => by
    subst e
    rw [h] at hk
    cases hk
    rw [ho] at hc
    cases hc
  exact (World.putObj_heap_other hne).trans hk
/-- What a loop's body may do to cells: Mi W k: block k is not the body's; WF W: what the body's own blocks need. -/
structure Fenc (Mi : World → Nat → Prop) (WF : World → Prop) : Prop where
  below : ∀ A B, WF A → Below A.heap.size A B → WF B ∧ (∀ k, Mi A k → Mi B k) ∧ ∀ k, A.heap.size ≤ k → k < B.heap.size → Mi B k
  put : ∀ (W : World) (l : Nat) (o o' : Obj), W.heap[l]? = some o → o.isCells = false → WF W → WF (W.putObj l o') ∧ ∀ k, Mi W k → Mi (W.putObj l o') k
structure KeepM (Mi : World → Nat → Prop) (WF : World → Prop) (W W' : World) : Prop where
  wf : WF W'
  os : W'.os = W.os
  tape : W'.tape = W.tape
  output : W'.output = W.output
  size : W.heap.size ≤ W'.heap.size
  same : ∀ (k : Nat) (o : Obj), Mi W k → W.heap[k]? = some o → o.isCells = true → W'.heap[k]? = some o ∧ Mi W' k
/-- Between two rounds. -/
def KeepK (Mi : World → Nat → Prop) (WF : World → Prop) (W W' : World) : Prop := WF W → KeepM Mi WF W W'
section
variable {Mi : World → Nat → Prop} {WF : World → Prop}
theorem KeepM.refl {W : World} (h : WF W) : KeepM Mi WF W W := ⟨h, rfl, rfl, rfl, Nat.le_refl _, fun _ _ m h _ => ⟨h, m⟩⟩
theorem KeepM.trans {A B C : World} (h : KeepM Mi WF A B) (k : KeepM Mi WF B C) : KeepM Mi WF A C :=
  ⟨k.wf, k.os.trans h.os, k.tape.trans h.tape, k.output.trans h.output, Nat.le_trans h.size k.size, fun i o hn hi ho => k.same i o (h.same i o hn hi ho).2 (h.same i o hn hi ho).1 ho⟩
theorem KeepK.trans {A B C : World} (h : KeepK Mi WF A B) (k : KeepK Mi WF B C) : KeepK Mi WF A C := fun hw => (h hw).trans (k (h hw).wf)
theorem KeepM.of_below (hF : Fenc Mi WF) {W W' : World} (hw : WF W) (h : Below W.heap.size W W') : KeepM Mi WF W W' :=
  ⟨(hF.below W W' hw h).1, h.os, h.tape, h.output, h.size, fun k _o m hk _ => ⟨(h.block k (Array.getElem?_eq_some_iff.1 hk).1).trans hk, (hF.below W W' hw h).2.1 k m⟩⟩
theorem Fenc.new (hF : Fenc Mi WF) {W W' : World} (hw : WF W) (h : Below W.heap.size W W') {k : Nat} (h1 : W.heap.size ≤ k) (h2 : k < W'.heap.size) : Mi W' k := (hF.below W W' hw h).2.2 k h1 h2
theorem KeepM.cellM {W W' : World} (h : KeepM Mi WF W W') {b off : Nat} {v : Value} (hn : Mi W b) (hc : W.cell? ⟨b, off, none⟩ = some v) : W'.cell? ⟨b, off, none⟩ = some v ∧ Mi W' b := by
  have hb : b < W.heap.size := block_lt_of_cell hc
  have hh : W.heap[b]? = some W.heap[b] := Array.getElem?_eq_getElem hb
  have hcs : W.heap[b].isCells = true := by
    unfold World.cell? at hc
    rw [show (⟨b, off, none⟩ : Addr).block = b from rfl] at hc
    cases ho : W.heap[b] <;> simp [hh, ho, Obj.isCells] at hc ⊢
  have h2 := h.same b _ hn hh hcs
  refine ⟨?_, h2.2⟩
  rw [← hc]
  exact World.cell?_of_block (w := W) (h2.1.trans hh.symm)
theorem KeepM.cell {W W' : World} (h : KeepM Mi WF W W') {b off : Nat} {v : Value} (hn : Mi W b) (hc : W.cell? ⟨b, off, none⟩ = some v) : W'.cell? ⟨b, off, none⟩ = some v := (h.cellM hn hc).1
theorem KeepM.box {W W' : World} {b : Nat} {c : Array Value} {T : TypeId} (h : KeepM Mi WF W W') (hc : W.heap[b]? = some (.cells c T (0, 0)) ∧ Mi W b) : W'.heap[b]? = some (.cells c T (0, 0)) ∧ Mi W' b := h.same b _ hc.2 hc.1 rfl
theorem keep_k (hF : Fenc Mi WF) {w : World} (W : World) (l : Nat) (o o' : Obj) (_ : w.heap.size ≤ l) (h : W.heap[l]? = some o) (ho : o.isCells = false) (_ : o.isWalk = false) : KeepK Mi WF W (W.putObj l o') := by
  intro hw
  obtain ⟨h1, h2⟩ := hF.put W l o o' h ho hw
  refine ⟨h1, rfl, rfl, rfl, by simp [World.putObj], fun k o2 m hk hc => ⟨?_, h2 k m⟩⟩
  have hne : k ≠ l := fun e => by
    subst e
    rw [h] at hk
    cases hk
    rw [ho] at hc
    cases hc
  exact (World.putObj_heap_other hne).trans hk
end
attribute [local go_sem] Oper.semAt_some
section
variable {Mi : World → Nat → Prop} {WF : World → Prop}
/-- A unit in memory that is not the body's. -/
structure UnO (Mi : World → Nat → Prop) (w : World) (u : UntN) (ca : Option Addr) (cc : Nat) (ga : Option Addr) (gc : Nat) : Prop where
  m : UnM w u ca cc ga gc
  oc : 0 < u.code.length → ∀ b off, ca = some ⟨b, off, none⟩ → Mi w b
  og : 0 < u.guards.length → ∀ b off, ga = some ⟨b, off, none⟩ → Mi w b
theorem RdC.keep {w w' : World} {a : Option Addr} {l : List InsN} (h : RdC w a l) (hb : KeepM Mi WF w w') (hn : 0 < l.length → ∀ b off, a = some ⟨b, off, none⟩ → Mi w b) : RdC w' a l := by
  intro i hi
  obtain ⟨b, off, ha, hlt, h0, h1, h2, h3⟩ := h i hi
  have hk := hn (by omega) b off ha
  exact ⟨b, off, ha, Nat.lt_of_lt_of_le hlt hb.size, hb.cell hk h0, hb.cell hk h1, hb.cell hk h2, hb.cell hk h3⟩
theorem RdD.keep {w w' : World} {a : Option Addr} {l : List GrdN} (h : RdD w a l) (hb : KeepM Mi WF w w') (hn : 0 < l.length → ∀ b off, a = some ⟨b, off, none⟩ → Mi w b) : RdD w' a l := by
  intro i hi
  obtain ⟨b, off, ha, hlt, h0, h1, h2⟩ := h i hi
  have hk := hn (by omega) b off ha
  exact ⟨b, off, ha, Nat.lt_of_lt_of_le hlt hb.size, hb.cell hk h0, hb.cell hk h1, hb.cell hk h2⟩
theorem RdI.keep {w w' : World} {a : Option Addr} {l : List Int} (h : RdI w a l) (hb : KeepM Mi WF w w') (hn : 0 < l.length → ∀ b off, a = some ⟨b, off, none⟩ → Mi w b) : RdI w' a l := by
  intro i hi
  obtain ⟨b, off, ha, hlt, h0⟩ := h i hi
  exact ⟨b, off, ha, Nat.lt_of_lt_of_le hlt hb.size, hb.cell (hn (by omega) b off ha) h0⟩
theorem UnO.keep {w w' : World} {u : UntN} {ca : Option Addr} {cc : Nat} {ga : Option Addr} {gc : Nat} (h : UnO Mi w u ca cc ga gc) (hb : KeepM Mi WF w w') : UnO Mi w' u ca cc ga gc := by
  refine ⟨⟨h.m.rc.keep hb h.oc, h.m.rg.keep hb h.og, h.m.lc, h.m.lg⟩, fun h0 b off e => ?_, fun h0 b off e => ?_⟩
  · obtain ⟨b', o', e', _, c0, _⟩ := h.m.rc 0 h0
    have hm := h.oc h0 b' o' e'
    rw [e] at e'
    cases e'
    exact (hb.cellM hm c0).2
  · obtain ⟨b', o', e', _, c0, _⟩ := h.m.rg 0 h0
    have hm := h.og h0 b' o' e'
    rw [e] at e'
    cases e'
    exact (hb.cellM hm c0).2
end
theorem abides_below {α : Type} {B : Nat} {J : List α → World → Prop} (hJ : AbidesFrom B J) {pre : List α} {W W' : World} (h : J pre W) (hb : Below W.heap.size W W') : J pre W' :=
  hJ pre W W' none h ⟨hb.os, hb.tape, hb.output, hb.size, fun k hk _ => hb.block k hk⟩ (fun r e => by cases e)
theorem OwnI.rdN {w : World} {base : Nat} {v : Value} {l : List Int} (h : OwnI w base v l) : ∃ a cap, v = .slice a l.length cap ∧ RdI w a l ∧ ∀ b off, a = some ⟨b, off, Option.none⟩ → base ≤ b := by
  obtain ⟨a, cap, rfl, hr⟩ := h.rd
  refine ⟨a, cap, rfl, hr, ?_⟩
  obtain ⟨_, h⟩ := h
  rcases h with ⟨e, h0⟩ | ⟨g, cap', cur, e, hg, _⟩
  · intro b off ha
    rw [ha] at e
    cases e
  · intro b off ha
    rw [ha] at e
    injection e with e1 _ _
    injection e1 with e2
    injection e2 with e3
    rw [e3]
    exact hg
theorem pre_leads {α β : Type} (A : List β) (l : List α) (g : α → β) (C : List β) {k : Nat} (hk : k < l.length) : A ++ (l.take k).map g ++ [g l[k]] <+: A ++ l.map g ++ C := by
  refine ⟨(l.drop (k + 1)).map g ++ C, ?_⟩
  have h : l = l.take k ++ l[k] :: l.drop (k + 1) := by rw [← List.drop_eq_getElem_cons hk, List.take_append_drop]
  have e : l.map g = (l.take k).map g ++ g l[k] :: (l.drop (k + 1)).map g := by
    conv => lhs; rw [h]
    rw [List.map_append, List.map_cons]
  rw [e]
  simp
theorem guard_lt (u : UntN) (t : Int) : guardL u t < u.guards.length := (idxP_lt _ _).2
set_option maxRecDepth 100000 in
set_option maxHeartbeats 4000000 in
theorem leads1_in (n : Nat) (hn : 1 ≤ n) {Mi : World → Nat → Prop} {WF : World → Prop} (hFe : Fenc Mi WF) (l : Nat) (u : UntN) (t : Nat) (ht : t < u.code.length) (hlen : u.code.length ≤ 1000000) (hlg : u.guards.length ≤ 1000000) (ca : Option Addr) (cc : Nat) (ga : Option Addr) (gc : Nat) (gu gt : Nat) (B : Nat) (J Jx : List (Int × Int) → World → Prop) (hJ : AbidesFrom B J)
    (hY : ∀ pre x W1, J pre W1 → pre ++ [x] <+: leadsL u t → YieldAt Fence.wide (n - 1) Tryz.prog l #[.int .i64 x.1, .int .i64 x.2] W1 fun e W' => (e = .returned (.bool true) ∧ J (pre ++ [x]) W' ∧ KeepK Mi WF W1 W') ∨ (e = .returned (.bool false) ∧ Jx (pre ++ [x]) W'))
    (W : World) (hU : W.heap[gu]? = some (.cells #[.string u.cls, .string u.name, .int .i64 u.args, .int .i64 u.slots, .int .i64 u.frame, .slice ca u.code.length cc, .slice ga u.guards.length gc] 25 (0, 0))) (hT : W.heap[gt]? = some (.cells #[.int .i64 t] 3 (0, 0))) (hM : UnO Mi W u ca cc ga gc) (hOu : Mi W gu) (hOt : Mi W gt) (hw : WF W) (h0 : J [] W) :
    CallsIn Fence.wide n Tryz.prog 208 #[.func (.yield l) #[] #[], .pointer (some ⟨gu, 0, none⟩), .pointer (some ⟨gt, 0, none⟩)] W fun e W' => (∃ v, e = .returned v) ∧ ((∃ ys, ys = leadsL u t ∧ J ys W') ∨ (∃ pre, (pre <+: leadsL u t ∧ pre ≠ []) ∧ Jx pre W')) := by
  have HY := hid hY; clear hY
  have HJ := hid hJ; clear hJ
  have HU := hid (And.intro hU hOu); clear hU hOu
  have HFe := hid hFe; clear hFe
  have HT := hid (And.intro hT hOt); clear hT hOt
  have HM := hid hM; clear hM
  have HWF := hid hw; clear hw
  have H0 := hid h0; clear h0
  obtain ⟨bc, oc, hca, _, c0, c1, c2, c3⟩ := HM.out.m.rc t ht
  obtain ⟨i, hi⟩ : ∃ i, i = u.code[t] := ⟨_, rfl⟩
  rw [← hi] at c0 c1 c2 c3
  have HI := hid (hi.trans (getD_in (d := ins0) ht).symm)
  have hlc := HM.out.m.lc
  subst hca
  have nt : (t : Int) < (u.code.length : Int) := by omega
  have nt0 : (0 : Int) ≤ (t : Int) := by omega
  obtain ⟨-, -, -, -, -, k5, k6⟩ := box7 HU.out.1
  have t0 := (cell_of_row _ _ 0 _ _ _ HT.out.1).trans rfl
  have HF := hid (formOf_any i.op)
  have HL : Hid (leadsL u t = (if (!(formL i.op).en && decide (t + 1 < u.code.length)) = true then [((t : Int) + 1, (0 : Int))] else []) ++ (placesL i).map (fun p => (p, 1)) ++ (if ((formL i.op).rs && decide (0 ≤ guardL u t)) = true then [((u.guards.getD (guardL u t).toNat grd0).at', (2 : Int))] else [])) := hid (by rw [HI.out]; rfl)
  have HP := hid (places_any i)
  have hpl3 : (placesL i).length ≤ 3 := placesU_length (formL i.op) i 3
  generalize formL i.op = f at *
  obtain ⟨nm, q0, q1, q2, q3, q4, q5, rs, en⟩ := f
  generalize opOk i.op = ok at *
  generalize placesL i = pl at *
  clear hi
  have HB0 := hid (bnew W (.cells #[.int .i64 i.op, .int .i64 i.a, .int .i64 i.b, .int .i64 i.c] 85))
  have HG4 := hid (heapn W (.cells #[.int .i64 i.op, .int .i64 i.a, .int .i64 i.b, .int .i64 i.c] 85) _ rfl)
  cases en with
  | false =>
    by_cases hl1 : t + 1 < u.code.length
    · have nt1 : (t : Int) + 1 < (u.code.length : Int) := by omega
      have dt1 : decide ((t : Int) + 1 < (u.code.length : Int)) = true := decide_eq_true nt1
      rw [if_pos (by simp [hl1])] at HL
      clear hl1
      refine callsIn_of_wp Tryz.func208 rfl trivial ?_ rfl
      simp only [Tryz.ntmps208, List.size_toArray, List.length_cons, List.length_nil, Nat.reduceAdd, Nat.reduceSub, Array.replicate_succ, Array.replicate_zero, List.push_toArray, List.append_toArray, List.nil_append, List.cons_append]
      gi_wp2_with (first
        | (refine ⟨trivial, ?_⟩; gi_at_call 139; refine (callsIn_wide.2 (HF.out _)).mono ?_; rintro e w1 ⟨rfl, hb⟩; have hb2 := hb.step (bnew w1 (.cells (cF ⟨nm, q0, q1, q2, q3, q4, q5, rs, false⟩) 186)); have HB2 := hid (HB0.out.step hb2); have HG5 := hid (heapn w1 (.cells (cF ⟨nm, q0, q1, q2, q3, q4, q5, rs, false⟩) 186) _ rfl); have HS5 : W.heap.size ≤ w1.heap.size := Nat.le_trans HB0.out.size hb.size; replace HG4 := hid (keepBox hb2 HG4.out); have HJ2 := hid (abides_below HJ.out H0.out HB2.out); have a5 : (w1.alloc (.cells #[.string ⟨nm⟩, .int .i64 q0, .int .i64 q1, .int .i64 q2, .int .i64 q3, .int .i64 q4, .int .i64 q5, .bool rs, .bool false] 186)).cell? ⟨gu, 5, none⟩ = some (.slice (some ⟨bc, oc, none⟩) u.code.length cc) := cell_later HB2.out k5; have at0 : (w1.alloc (.cells #[.string ⟨nm⟩, .int .i64 q0, .int .i64 q1, .int .i64 q2, .int .i64 q3, .int .i64 q4, .int .i64 q5, .bool rs, .bool false] 186)).cell? ⟨gt, 0, none⟩ = some (.int .i64 t) := cell_later HB2.out t0; obtain ⟨fn, tmps, assign, body, hy, hR⟩ := HY.out [] ((t : Int) + 1, 0) _ HJ2.out (by rw [HL.out]; simp); dsimp only at hy; clear hb hb2))
      refine hR.mono ?_
      rintro e W3 (⟨rfl, hJ3, hk3⟩ | ⟨rfl, hx3⟩)
      · have HJ3 := hid hJ3
        have HK2 := hid (KeepM.of_below HFe.out HWF.out HB2.out)
        have HK3 := hid (HK2.out.trans (hk3 HK2.out.wf))
        replace HG4 := hid ((hk3 HK2.out.wf).box ⟨HG4.out, HFe.out.new HWF.out HB2.out (Nat.le_refl _) (lt_of_heap HG4.out)⟩)
        replace HG5 := hid ((hk3 HK2.out.wf).box ⟨HG5.out, HFe.out.new HWF.out HB2.out HS5 (lt_of_heap HG5.out)⟩)
        clear hJ3 hk3 a5 at0
        obtain ⟨b0, b1, b2, b3⟩ := box4 HG4.out.1
        gi_wp2_with (first
          | (refine ⟨trivial, ?_⟩; gi_at_call 209; refine (callsIn_wide.2 (HP.out _)).mono ?_; rintro e w4 ⟨hb, v, rfl, ho⟩; obtain ⟨pa, pc, rfl, hrp, hpn⟩ := ho.rdN; have HRP := hid hrp; have HPN : Hid (0 < pl.length → ∀ b off, pa = some ⟨b, off, none⟩ → Mi w4 b) := hid (fun h0 b off e => by obtain ⟨b2, o2, e2, hlt, _⟩ := hrp 0 h0; rw [e] at e2; cases e2; exact HFe.out.new HK3.out.wf hb (hpn b off e) hlt); have HB4 := hid hb; clear hb hrp hpn ho))
        clear b0 b1 b2 b3
        have HJ4 := hid (abides_below HJ.out HJ3.out HB4.out)
        have HKW := hid (HK3.out.trans (KeepM.of_below HFe.out HK3.out.wf HB4.out))
        replace HG5 := hid ((KeepM.of_below HFe.out HK3.out.wf HB4.out).box HG5.out)
        gi_loopw [42] (fun s42 wr => ∃ k : Nat, k ≤ pl.length ∧ s42 = .int .i64 k ∧ Hid (J ([((t : Int) + 1, 0)] ++ (pl.take k).map (fun p => (p, (1 : Int)))) wr) ∧ Hid (KeepM Mi WF w4 wr))
          (fun s42 _ => pl.length - (intOf s42).toNat)
        case atStart => exact ⟨0, Nat.zero_le _, rfl, hid (by simpa using HJ4.out), hid (KeepM.refl HKW.out.wf)⟩
        case round =>
          obtain ⟨k, hk, rfl, HJ5, HK5⟩ := hrel
          by_cases hlk : k < pl.length
          · obtain ⟨bp, op, hpa, _, hpx⟩ := (HRP.out.keep HK5.out HPN.out) k hlk
            have nk : (k : Int) < (pl.length : Int) := by omega
            have HTK := hid (take_last hlk)
            have HPRE := hid (pre_leads [((t : Int) + 1, 0)] pl (fun p => (p, (1 : Int))) (if (rs && decide (0 ≤ guardL u t)) = true then [((u.guards.getD (guardL u t).toNat grd0).at', (2 : Int))] else []) hlk)
            obtain ⟨fn, tmps, assign, body, hy, hR⟩ := HY.out _ (pl[k], 1) wr HJ5.out (by rw [HL.out]; exact HPRE.out)
            generalize pl[k] = x at *
            subst hpa
            dsimp only at hy
            gi_wp2
            refine hR.mono ?_
            rintro e W5 (⟨rfl, hJ5, hk5⟩ | ⟨rfl, hx5⟩)
            · gi_wp2
              go_roundw
              case rel => exact ⟨k + 1, by omega, by go_num, hid (by rw [HTK.out, List.map_append, ← List.append_assoc]; exact hJ5), hid (HK5.out.trans (hk5 HK5.out.wf))⟩
              case measure => simp [intOf]; omega
            · gi_wp2
              refine bodyPost_ret (results_none rfl _ _ _) rfl ?_
              exact ⟨⟨_, rfl⟩, .inr ⟨_, ⟨by rw [HL.out]; exact HPRE.out, by simp⟩, hx5⟩⟩
          · obtain rfl : k = pl.length := by omega
            have HJ6 := hid (by have := HJ5.out; rwa [List.take_length] at this : J ([((t : Int) + 1, 0)] ++ pl.map (fun p => (p, (1 : Int)))) wr)
            have HKX := hid (HKW.out.trans HK5.out)
            obtain ⟨u0, u1, u2, u3, u4, u5, u6⟩ := box7 (HKX.out.box HU.out).1
            have v0 := (cell_of_row _ _ 0 _ _ _ (HKX.out.box HT.out).1).trans rfl
            have HM6 := hid (HM.out.keep HKX.out)
            replace HG5 := hid (HK5.out.box HG5.out)
            have HGO := hid (guardOf_any u t (some ⟨bc, oc, none⟩) cc ga gc wr HM6.out.m.rg (by omega))
            have HGL := hid (guard_lt u t)
            obtain ⟨gi, hgi⟩ : ∃ gi, gi = guardL u t := ⟨_, rfl⟩
            rw [← hgi] at HGO HL HGL
            clear hgi
            cases rs with
            | false =>
              rw [if_neg (by simp)] at HL
              gi_wp2_with (first
                | (refine ⟨trivial, ?_⟩; gi_at_call 210; refine (callsIn_wide.2 HGO.out).mono ?_; rintro e w6 ⟨rfl, hb⟩; have HB6 := hid hb; have d7 := (cell_of_row _ _ 7 _ _ _ (keepBox hb HG5.out.1)).trans rfl; clear hb))
              go_end0
              refine ⟨⟨_, rfl⟩, .inl ⟨leadsL u t, rfl, ?_⟩⟩
              rw [HL.out, List.append_nil]
              exact abides_below HJ.out HJ6.out HB6.out
            | true =>
              by_cases hg0 : 0 ≤ gi
              · obtain ⟨m', rfl⟩ : ∃ q : Nat, gi = (q : Int) := ⟨gi.toNat, by omega⟩
                have hgl : m' < u.guards.length := by have := HGL.out; omega
                have ngl : (m' : Int) < (u.guards.length : Int) := by omega
                rw [if_pos (by simp), show ((m' : Int)).toNat = m' from rfl, getD_in hgl] at HL
                obtain ⟨bg, og, hga, _, -, -, g2⟩ := HM6.out.m.rg m' hgl
                subst hga
                generalize u.guards[m'] = gd at *
                have HG2 := hid g2
                clear g2
                gi_wp2_with (first
                  | (refine ⟨trivial, ?_⟩; gi_at_call 210; refine (callsIn_wide.2 HGO.out).mono ?_; rintro e w6 ⟨rfl, hb⟩; have HB6 := hid hb; have d7 := (cell_of_row _ _ 7 _ _ _ (keepBox hb HG5.out.1)).trans rfl; have g2 := cell_later hb HG2.out; have e6 := cell_later hb u6; obtain ⟨fn, tmps, assign, body, hy, hR⟩ := HY.out _ (gd.at', 2) w6 (abides_below HJ.out HJ6.out hb) (by rw [HL.out]; exact List.prefix_refl _); dsimp only at hy; clear hb))
                refine hR.mono ?_
                rintro e W7 (⟨rfl, hJ7, hk7⟩ | ⟨rfl, hx7⟩)
                · gi_wp2
                  go_end0
                  refine ⟨⟨_, rfl⟩, .inl ⟨leadsL u t, rfl, ?_⟩⟩
                  rw [HL.out]
                  exact hJ7
                · gi_wp2
                  go_end0
                  exact ⟨⟨_, rfl⟩, .inr ⟨_, ⟨by rw [HL.out]; exact List.prefix_refl _, by simp⟩, hx7⟩⟩
              · have dg : decide (0 ≤ gi) = false := decide_eq_false hg0
                rw [if_neg (by simp; omega)] at HL
                gi_wp2_with (first
                  | (refine ⟨trivial, ?_⟩; gi_at_call 210; refine (callsIn_wide.2 HGO.out).mono ?_; rintro e w6 ⟨rfl, hb⟩; have HB6 := hid hb; have d7 := (cell_of_row _ _ 7 _ _ _ (keepBox hb HG5.out.1)).trans rfl; clear hb))
                go_end0
                refine ⟨⟨_, rfl⟩, .inl ⟨leadsL u t, rfl, ?_⟩⟩
                rw [HL.out, List.append_nil]
                exact abides_below HJ.out HJ6.out HB6.out
      · gi_wp2
        refine bodyPost_ret (results_none rfl _ _ _) rfl ?_
        exact ⟨⟨_, rfl⟩, .inr ⟨_, ⟨by rw [HL.out]; simp, by simp⟩, hx3⟩⟩
    · have nt1 : ¬ (t : Int) + 1 < (u.code.length : Int) := by omega
      have dt1 : decide ((t : Int) + 1 < (u.code.length : Int)) = false := decide_eq_false nt1
      rw [if_neg (by simp; omega)] at HL
      clear hl1
      refine callsIn_of_wp Tryz.func208 rfl trivial ?_ rfl
      simp only [Tryz.ntmps208, List.size_toArray, List.length_cons, List.length_nil, Nat.reduceAdd, Nat.reduceSub, Array.replicate_succ, Array.replicate_zero, List.push_toArray, List.append_toArray, List.nil_append, List.cons_append]
      gi_wp2_with (first
        | (refine ⟨trivial, ?_⟩; gi_at_call 139; refine (callsIn_wide.2 (HF.out _)).mono ?_; rintro e w1 ⟨rfl, hb⟩; have hb2 := hb.step (bnew w1 (.cells (cF ⟨nm, q0, q1, q2, q3, q4, q5, rs, false⟩) 186)); have HB2 := hid (HB0.out.step hb2); have HG5 := hid (heapn w1 (.cells (cF ⟨nm, q0, q1, q2, q3, q4, q5, rs, false⟩) 186) _ rfl); have HS5 : W.heap.size ≤ w1.heap.size := Nat.le_trans HB0.out.size hb.size; replace HG4 := hid (keepBox hb2 HG4.out); have HJ2 := hid (abides_below HJ.out H0.out HB2.out); have a5 : (w1.alloc (.cells #[.string ⟨nm⟩, .int .i64 q0, .int .i64 q1, .int .i64 q2, .int .i64 q3, .int .i64 q4, .int .i64 q5, .bool rs, .bool false] 186)).cell? ⟨gu, 5, none⟩ = some (.slice (some ⟨bc, oc, none⟩) u.code.length cc) := cell_later HB2.out k5; have at0 : (w1.alloc (.cells #[.string ⟨nm⟩, .int .i64 q0, .int .i64 q1, .int .i64 q2, .int .i64 q3, .int .i64 q4, .int .i64 q5, .bool rs, .bool false] 186)).cell? ⟨gt, 0, none⟩ = some (.int .i64 t) := cell_later HB2.out t0; have HK3 := hid (KeepM.of_below HFe.out HWF.out HB2.out); replace HG4 := hid (And.intro HG4.out (HFe.out.new HWF.out HB2.out (Nat.le_refl _) (lt_of_heap HG4.out))); replace HG5 := hid (And.intro HG5.out (HFe.out.new HWF.out HB2.out HS5 (lt_of_heap HG5.out))); have HJ3 := hid HJ2.out; clear hb hb2))
      refine ⟨fun _ h => (by cases h), ?_⟩
      clear a5 at0
      obtain ⟨b0, b1, b2, b3⟩ := box4 HG4.out.1
      gi_wp2_with (first
        | (refine ⟨trivial, ?_⟩; gi_at_call 209; refine (callsIn_wide.2 (HP.out _)).mono ?_; rintro e w4 ⟨hb, v, rfl, ho⟩; obtain ⟨pa, pc, rfl, hrp, hpn⟩ := ho.rdN; have HRP := hid hrp; have HPN : Hid (0 < pl.length → ∀ b off, pa = some ⟨b, off, none⟩ → Mi w4 b) := hid (fun h0 b off e => by obtain ⟨b2, o2, e2, hlt, _⟩ := hrp 0 h0; rw [e] at e2; cases e2; exact HFe.out.new HK3.out.wf hb (hpn b off e) hlt); have HB4 := hid hb; clear hb hrp hpn ho))
      clear b0 b1 b2 b3
      have HJ4 := hid (abides_below HJ.out HJ3.out HB4.out)
      have HKW := hid (HK3.out.trans (KeepM.of_below HFe.out HK3.out.wf HB4.out))
      replace HG5 := hid ((KeepM.of_below HFe.out HK3.out.wf HB4.out).box HG5.out)
      gi_loopw [42] (fun s42 wr => ∃ k : Nat, k ≤ pl.length ∧ s42 = .int .i64 k ∧ Hid (J (([] : List (Int × Int)) ++ (pl.take k).map (fun p => (p, (1 : Int)))) wr) ∧ Hid (KeepM Mi WF w4 wr))
        (fun s42 _ => pl.length - (intOf s42).toNat)
      case atStart => exact ⟨0, Nat.zero_le _, rfl, hid (by simpa using HJ4.out), hid (KeepM.refl HKW.out.wf)⟩
      case round =>
        obtain ⟨k, hk, rfl, HJ5, HK5⟩ := hrel
        by_cases hlk : k < pl.length
        · obtain ⟨bp, op, hpa, _, hpx⟩ := (HRP.out.keep HK5.out HPN.out) k hlk
          have nk : (k : Int) < (pl.length : Int) := by omega
          have HTK := hid (take_last hlk)
          have HPRE := hid (pre_leads ([] : List (Int × Int)) pl (fun p => (p, (1 : Int))) (if (rs && decide (0 ≤ guardL u t)) = true then [((u.guards.getD (guardL u t).toNat grd0).at', (2 : Int))] else []) hlk)
          obtain ⟨fn, tmps, assign, body, hy, hR⟩ := HY.out _ (pl[k], 1) wr HJ5.out (by rw [HL.out]; exact HPRE.out)
          generalize pl[k] = x at *
          subst hpa
          dsimp only at hy
          gi_wp2
          refine hR.mono ?_
          rintro e W5 (⟨rfl, hJ5, hk5⟩ | ⟨rfl, hx5⟩)
          · gi_wp2
            go_roundw
            case rel => exact ⟨k + 1, by omega, by go_num, hid (by rw [HTK.out, List.map_append, ← List.append_assoc]; exact hJ5), hid (HK5.out.trans (hk5 HK5.out.wf))⟩
            case measure => simp [intOf]; omega
          · gi_wp2
            refine bodyPost_ret (results_none rfl _ _ _) rfl ?_
            exact ⟨⟨_, rfl⟩, .inr ⟨_, ⟨by rw [HL.out]; exact HPRE.out, by simp⟩, hx5⟩⟩
        · obtain rfl : k = pl.length := by omega
          have HJ6 := hid (by have := HJ5.out; rwa [List.take_length] at this : J (([] : List (Int × Int)) ++ pl.map (fun p => (p, (1 : Int)))) wr)
          have HKX := hid (HKW.out.trans HK5.out)
          obtain ⟨u0, u1, u2, u3, u4, u5, u6⟩ := box7 (HKX.out.box HU.out).1
          have v0 := (cell_of_row _ _ 0 _ _ _ (HKX.out.box HT.out).1).trans rfl
          have HM6 := hid (HM.out.keep HKX.out)
          replace HG5 := hid (HK5.out.box HG5.out)
          have HGO := hid (guardOf_any u t (some ⟨bc, oc, none⟩) cc ga gc wr HM6.out.m.rg (by omega))
          have HGL := hid (guard_lt u t)
          obtain ⟨gi, hgi⟩ : ∃ gi, gi = guardL u t := ⟨_, rfl⟩
          rw [← hgi] at HGO HL HGL
          clear hgi
          cases rs with
          | false =>
            rw [if_neg (by simp)] at HL
            gi_wp2_with (first
              | (refine ⟨trivial, ?_⟩; gi_at_call 210; refine (callsIn_wide.2 HGO.out).mono ?_; rintro e w6 ⟨rfl, hb⟩; have HB6 := hid hb; have d7 := (cell_of_row _ _ 7 _ _ _ (keepBox hb HG5.out.1)).trans rfl; clear hb))
            go_end0
            refine ⟨⟨_, rfl⟩, .inl ⟨leadsL u t, rfl, ?_⟩⟩
            rw [HL.out, List.append_nil]
            exact abides_below HJ.out HJ6.out HB6.out
          | true =>
            by_cases hg0 : 0 ≤ gi
            · obtain ⟨m', rfl⟩ : ∃ q : Nat, gi = (q : Int) := ⟨gi.toNat, by omega⟩
              have hgl : m' < u.guards.length := by have := HGL.out; omega
              have ngl : (m' : Int) < (u.guards.length : Int) := by omega
              rw [if_pos (by simp), show ((m' : Int)).toNat = m' from rfl, getD_in hgl] at HL
              obtain ⟨bg, og, hga, _, -, -, g2⟩ := HM6.out.m.rg m' hgl
              subst hga
              generalize u.guards[m'] = gd at *
              have HG2 := hid g2
              clear g2
              gi_wp2_with (first
                | (refine ⟨trivial, ?_⟩; gi_at_call 210; refine (callsIn_wide.2 HGO.out).mono ?_; rintro e w6 ⟨rfl, hb⟩; have HB6 := hid hb; have d7 := (cell_of_row _ _ 7 _ _ _ (keepBox hb HG5.out.1)).trans rfl; have g2 := cell_later hb HG2.out; have e6 := cell_later hb u6; obtain ⟨fn, tmps, assign, body, hy, hR⟩ := HY.out _ (gd.at', 2) w6 (abides_below HJ.out HJ6.out hb) (by rw [HL.out]; exact List.prefix_refl _); dsimp only at hy; clear hb))
              refine hR.mono ?_
              rintro e W7 (⟨rfl, hJ7, hk7⟩ | ⟨rfl, hx7⟩)
              · gi_wp2
                go_end0
                refine ⟨⟨_, rfl⟩, .inl ⟨leadsL u t, rfl, ?_⟩⟩
                rw [HL.out]
                exact hJ7
              · gi_wp2
                go_end0
                exact ⟨⟨_, rfl⟩, .inr ⟨_, ⟨by rw [HL.out]; exact List.prefix_refl _, by simp⟩, hx7⟩⟩
            · have dg : decide (0 ≤ gi) = false := decide_eq_false hg0
              rw [if_neg (by simp; omega)] at HL
              gi_wp2_with (first
                | (refine ⟨trivial, ?_⟩; gi_at_call 210; refine (callsIn_wide.2 HGO.out).mono ?_; rintro e w6 ⟨rfl, hb⟩; have HB6 := hid hb; have d7 := (cell_of_row _ _ 7 _ _ _ (keepBox hb HG5.out.1)).trans rfl; clear hb))
              go_end0
              refine ⟨⟨_, rfl⟩, .inl ⟨leadsL u t, rfl, ?_⟩⟩
              rw [HL.out, List.append_nil]
              exact abides_below HJ.out HJ6.out HB6.out
  | true =>
    rw [if_neg (by simp)] at HL
    refine callsIn_of_wp Tryz.func208 rfl trivial ?_ rfl
    simp only [Tryz.ntmps208, List.size_toArray, List.length_cons, List.length_nil, Nat.reduceAdd, Nat.reduceSub, Array.replicate_succ, Array.replicate_zero, List.push_toArray, List.append_toArray, List.nil_append, List.cons_append]
    gi_wp2_with (first
      | (refine ⟨trivial, ?_⟩; gi_at_call 139; refine (callsIn_wide.2 (HF.out _)).mono ?_; rintro e w1 ⟨rfl, hb⟩; have hb2 := hb.step (bnew w1 (.cells (cF ⟨nm, q0, q1, q2, q3, q4, q5, rs, true⟩) 186)); have HB2 := hid (HB0.out.step hb2); have HG5 := hid (heapn w1 (.cells (cF ⟨nm, q0, q1, q2, q3, q4, q5, rs, true⟩) 186) _ rfl); have HS5 : W.heap.size ≤ w1.heap.size := Nat.le_trans HB0.out.size hb.size; replace HG4 := hid (keepBox hb2 HG4.out); have HJ2 := hid (abides_below HJ.out H0.out HB2.out); have a5 : (w1.alloc (.cells #[.string ⟨nm⟩, .int .i64 q0, .int .i64 q1, .int .i64 q2, .int .i64 q3, .int .i64 q4, .int .i64 q5, .bool rs, .bool true] 186)).cell? ⟨gu, 5, none⟩ = some (.slice (some ⟨bc, oc, none⟩) u.code.length cc) := cell_later HB2.out k5; have at0 : (w1.alloc (.cells #[.string ⟨nm⟩, .int .i64 q0, .int .i64 q1, .int .i64 q2, .int .i64 q3, .int .i64 q4, .int .i64 q5, .bool rs, .bool true] 186)).cell? ⟨gt, 0, none⟩ = some (.int .i64 t) := cell_later HB2.out t0; have HK3 := hid (KeepM.of_below HFe.out HWF.out HB2.out); replace HG4 := hid (And.intro HG4.out (HFe.out.new HWF.out HB2.out (Nat.le_refl _) (lt_of_heap HG4.out))); replace HG5 := hid (And.intro HG5.out (HFe.out.new HWF.out HB2.out HS5 (lt_of_heap HG5.out))); have HJ3 := hid HJ2.out; clear hb hb2))
    refine ⟨fun _ h => (by cases h), ?_⟩
    clear a5 at0
    obtain ⟨b0, b1, b2, b3⟩ := box4 HG4.out.1
    gi_wp2_with (first
      | (refine ⟨trivial, ?_⟩; gi_at_call 209; refine (callsIn_wide.2 (HP.out _)).mono ?_; rintro e w4 ⟨hb, v, rfl, ho⟩; obtain ⟨pa, pc, rfl, hrp, hpn⟩ := ho.rdN; have HRP := hid hrp; have HPN : Hid (0 < pl.length → ∀ b off, pa = some ⟨b, off, none⟩ → Mi w4 b) := hid (fun h0 b off e => by obtain ⟨b2, o2, e2, hlt, _⟩ := hrp 0 h0; rw [e] at e2; cases e2; exact HFe.out.new HK3.out.wf hb (hpn b off e) hlt); have HB4 := hid hb; clear hb hrp hpn ho))
    clear b0 b1 b2 b3
    have HJ4 := hid (abides_below HJ.out HJ3.out HB4.out)
    have HKW := hid (HK3.out.trans (KeepM.of_below HFe.out HK3.out.wf HB4.out))
    replace HG5 := hid ((KeepM.of_below HFe.out HK3.out.wf HB4.out).box HG5.out)
    gi_loopw [42] (fun s42 wr => ∃ k : Nat, k ≤ pl.length ∧ s42 = .int .i64 k ∧ Hid (J (([] : List (Int × Int)) ++ (pl.take k).map (fun p => (p, (1 : Int)))) wr) ∧ Hid (KeepM Mi WF w4 wr))
      (fun s42 _ => pl.length - (intOf s42).toNat)
    case atStart => exact ⟨0, Nat.zero_le _, rfl, hid (by simpa using HJ4.out), hid (KeepM.refl HKW.out.wf)⟩
    case round =>
      obtain ⟨k, hk, rfl, HJ5, HK5⟩ := hrel
      by_cases hlk : k < pl.length
      · obtain ⟨bp, op, hpa, _, hpx⟩ := (HRP.out.keep HK5.out HPN.out) k hlk
        have nk : (k : Int) < (pl.length : Int) := by omega
        have HTK := hid (take_last hlk)
        have HPRE := hid (pre_leads ([] : List (Int × Int)) pl (fun p => (p, (1 : Int))) (if (rs && decide (0 ≤ guardL u t)) = true then [((u.guards.getD (guardL u t).toNat grd0).at', (2 : Int))] else []) hlk)
        obtain ⟨fn, tmps, assign, body, hy, hR⟩ := HY.out _ (pl[k], 1) wr HJ5.out (by rw [HL.out]; exact HPRE.out)
        generalize pl[k] = x at *
        subst hpa
        dsimp only at hy
        gi_wp2
        refine hR.mono ?_
        rintro e W5 (⟨rfl, hJ5, hk5⟩ | ⟨rfl, hx5⟩)
        · gi_wp2
          go_roundw
          case rel => exact ⟨k + 1, by omega, by go_num, hid (by rw [HTK.out, List.map_append, ← List.append_assoc]; exact hJ5), hid (HK5.out.trans (hk5 HK5.out.wf))⟩
          case measure => simp [intOf]; omega
        · gi_wp2
          refine bodyPost_ret (results_none rfl _ _ _) rfl ?_
          exact ⟨⟨_, rfl⟩, .inr ⟨_, ⟨by rw [HL.out]; exact HPRE.out, by simp⟩, hx5⟩⟩
      · obtain rfl : k = pl.length := by omega
        have HJ6 := hid (by have := HJ5.out; rwa [List.take_length] at this : J (([] : List (Int × Int)) ++ pl.map (fun p => (p, (1 : Int)))) wr)
        have HKX := hid (HKW.out.trans HK5.out)
        obtain ⟨u0, u1, u2, u3, u4, u5, u6⟩ := box7 (HKX.out.box HU.out).1
        have v0 := (cell_of_row _ _ 0 _ _ _ (HKX.out.box HT.out).1).trans rfl
        have HM6 := hid (HM.out.keep HKX.out)
        replace HG5 := hid (HK5.out.box HG5.out)
        have HGO := hid (guardOf_any u t (some ⟨bc, oc, none⟩) cc ga gc wr HM6.out.m.rg (by omega))
        have HGL := hid (guard_lt u t)
        obtain ⟨gi, hgi⟩ : ∃ gi, gi = guardL u t := ⟨_, rfl⟩
        rw [← hgi] at HGO HL HGL
        clear hgi
        cases rs with
        | false =>
          rw [if_neg (by simp)] at HL
          gi_wp2_with (first
            | (refine ⟨trivial, ?_⟩; gi_at_call 210; refine (callsIn_wide.2 HGO.out).mono ?_; rintro e w6 ⟨rfl, hb⟩; have HB6 := hid hb; have d7 := (cell_of_row _ _ 7 _ _ _ (keepBox hb HG5.out.1)).trans rfl; clear hb))
          go_end0
          refine ⟨⟨_, rfl⟩, .inl ⟨leadsL u t, rfl, ?_⟩⟩
          rw [HL.out, List.append_nil]
          exact abides_below HJ.out HJ6.out HB6.out
        | true =>
          by_cases hg0 : 0 ≤ gi
          · obtain ⟨m', rfl⟩ : ∃ q : Nat, gi = (q : Int) := ⟨gi.toNat, by omega⟩
            have hgl : m' < u.guards.length := by have := HGL.out; omega
            have ngl : (m' : Int) < (u.guards.length : Int) := by omega
            rw [if_pos (by simp), show ((m' : Int)).toNat = m' from rfl, getD_in hgl] at HL
            obtain ⟨bg, og, hga, _, -, -, g2⟩ := HM6.out.m.rg m' hgl
            subst hga
            generalize u.guards[m'] = gd at *
            have HG2 := hid g2
            clear g2
            gi_wp2_with (first
              | (refine ⟨trivial, ?_⟩; gi_at_call 210; refine (callsIn_wide.2 HGO.out).mono ?_; rintro e w6 ⟨rfl, hb⟩; have HB6 := hid hb; have d7 := (cell_of_row _ _ 7 _ _ _ (keepBox hb HG5.out.1)).trans rfl; have g2 := cell_later hb HG2.out; have e6 := cell_later hb u6; obtain ⟨fn, tmps, assign, body, hy, hR⟩ := HY.out _ (gd.at', 2) w6 (abides_below HJ.out HJ6.out hb) (by rw [HL.out]; exact List.prefix_refl _); dsimp only at hy; clear hb))
            refine hR.mono ?_
            rintro e W7 (⟨rfl, hJ7, hk7⟩ | ⟨rfl, hx7⟩)
            · gi_wp2
              go_end0
              refine ⟨⟨_, rfl⟩, .inl ⟨leadsL u t, rfl, ?_⟩⟩
              rw [HL.out]
              exact hJ7
            · gi_wp2
              go_end0
              exact ⟨⟨_, rfl⟩, .inr ⟨_, ⟨by rw [HL.out]; exact List.prefix_refl _, by simp⟩, hx7⟩⟩
          · have dg : decide (0 ≤ gi) = false := decide_eq_false hg0
            rw [if_neg (by simp; omega)] at HL
            gi_wp2_with (first
              | (refine ⟨trivial, ?_⟩; gi_at_call 210; refine (callsIn_wide.2 HGO.out).mono ?_; rintro e w6 ⟨rfl, hb⟩; have HB6 := hid hb; have d7 := (cell_of_row _ _ 7 _ _ _ (keepBox hb HG5.out.1)).trans rfl; clear hb))
            go_end0
            refine ⟨⟨_, rfl⟩, .inl ⟨leadsL u t, rfl, ?_⟩⟩
            rw [HL.out, List.append_nil]
            exact abides_below HJ.out HJ6.out HB6.out
end Go.Proofs.YtgalekifgnecjaaGreat
