/- The iterator leads as a contract for loops over it. depth of package core: what stands in its loops. A region that draws its order, in a round of a loop over an iterator. depth of package core: a round of its inner loop. -/
import Derived.Test.YtecpkjhfbmchgaaU22
import Derived.Lib.QuietBelowIn
import Derived.Sort.BigQuietIn
namespace Go.Proofs.Ytecpkjhfbmchgaa
open Go.RowKit

open Go.RowKit Go.Shelf

/-- A lead of an instruction. -/
abbrev LdX (u : UntN) (t : Nat) := {x : Int × Int // x ∈ leadsL u t}
def ldV {u : UntN} {t : Nat} (l : List (LdX u t)) : List (Int × Int) := l.map Subtype.val
theorem leads_stops (n : Nat) (hn : 1 ≤ n) {Mi : World → Nat → Prop} {WF : World → Prop} (hFe : Fenc Mi WF) (u : UntN) (t : Nat) (ht : t < u.code.length) (hlen : u.code.length ≤ 1000000) (hlg : u.guards.length ≤ 1000000) (ca : Option Addr) (cc : Nat) (ga : Option Addr) (gc : Nat) (gu gt : Nat)
    (w : World) (hU : w.heap[gu]? = some (oU u ca cc ga gc)) (hT : w.heap[gt]? = some (.cells #[.int .i64 t] 3)) (hM : UnO Mi w u ca cc ga gc) (hOu : Mi w gu) (hOt : Mi w gt) (hw : WF w) :
    SeqStopsK Fence.wide n Try.prog 72 #[.pointer (some ⟨gu, 0, none⟩), .pointer (some ⟨gt, 0, none⟩)] (fun x : LdX u t => #[.int .i64 x.1.1, .int .i64 x.1.2]) (KeepK Mi WF) (fun ys => ldV ys = leadsL u t) (fun pre => ldV pre <+: leadsL u t ∧ pre ≠ []) (leadsL u t).length w := by
  intro l J Jx W hb hJ _ hY h0
  have hk := KeepM.of_below hFe hw hb
  obtain ⟨hU2, hOu2⟩ := hk.box ⟨hU, hOu⟩
  obtain ⟨hT2, hOt2⟩ := hk.box ⟨hT, hOt⟩
  refine (leads1_in n hn hFe l u t ht hlen hlg ca cc ga gc gu gt W.heap.size (fun pre W => ∃ p : List (LdX u t), ldV p = pre ∧ J p W) (fun pre W => ∃ p : List (LdX u t), ldV p = pre ∧ Jx p W) ?_ ?_ W hU2 hT2 (hM.keep hk) hOu2 hOt2 hk.wf ⟨[], rfl, h0⟩).mono ?_
  · rintro s A B row ⟨p, e, hj⟩ hg hr
    exact ⟨p, e, hJ p A B row hj hg hr⟩
  · rintro pre x W1 ⟨p, e, hj⟩ hp
    have hx : x ∈ leadsL u t := hp.subset (by simp)
    have hl : p.length < (leadsL u t).length := by
      have h1 := hp.length_le
      have h2 : p.length = pre.length := by rw [← e]; simp [ldV]
      simp at h1
      omega
    refine (hY p ⟨x, hx⟩ W1 hj hl).mono ?_
    rintro e' W' (⟨h1, h2, h3⟩ | ⟨h1, h2⟩)
    · exact .inl ⟨h1, ⟨p ++ [⟨x, hx⟩], by rw [← e]; simp [ldV], h2⟩, h3⟩
    · exact .inr ⟨h1, ⟨p ++ [⟨x, hx⟩], by rw [← e]; simp [ldV], h2⟩⟩
  · rintro e' W' ⟨h1, h2⟩
    refine ⟨h1, ?_⟩
    rcases h2 with ⟨ys, h3, p, h4, h5⟩ | ⟨pre, ⟨h3, h4⟩, p, h5, h6⟩
    · exact .inl ⟨p, h4.trans h3, h5⟩
    · refine .inr ⟨p, ⟨by rw [h5]; exact h3, fun hp => h4 ?_⟩, h6⟩
      rw [← h5, hp]
      rfl

open Go.RowKit Go.Shelf
attribute [local go_sem] Oper.semAt_some

/-- What stands at the head of depth's loop. -/
structure DpI (u : UntN) (ca : Option Addr) (cc : Nat) (ga : Option Addr) (gc : Nat) (w : World) (gO b4 : Nat) (Ds : List Nat) (d op : List Int) (gB g off cap : Nat) (wr : World) : Prop where
  hb : Below w.heap.size w wr
  x1 : wr.heap[w.heap.size]? = some (oU u ca cc ga gc)
  x2 : wr.heap[w.heap.size + 1]? = some (.cells #[.slice none 0 0] 33)
  x3 : wr.heap[w.heap.size + 1 + 1]? = some (.cells #[.bool false] 4)
  x4 : wr.heap[b4]? = some (.cells #[.slice (some ⟨gO, 0, none⟩) u.code.length u.code.length] 33)
  bi : BI wr gO d
  x5 : wr.heap[gB]? = some (.cells #[.slice (some ⟨g, off, none⟩) op.length cap] 33)
  qb : QB wr g off cap op
  o1 : w.heap.size + 1 + 1 < gO
  o2 : gO < b4
  o3 : b4 < g
  o4 : b4 < gB
  ds : ∀ D, D ∈ Ds → w.heap.size ≤ D ∧ wr.heap[D]? = some (.deferred (some []))
  nd : Ds.Nodup
  ok : DpOk u.code.length d op
  cnt : negs d + op.length + Ds.length = u.code.length
  ans : dpAll u (u.code.length - Ds.length) d op = depN u
theorem dp_start {n : Nat} (h : 0 < n) : DpOk n ((List.replicate n (-1)).set 0 0) [0] ∧ negs ((List.replicate n (-1)).set 0 0) + 1 = n := by
  refine ⟨⟨by simp, ?_, ?_⟩, ?_⟩
  · intro x hx
    rcases List.mem_or_eq_of_mem_set hx with h1 | rfl
    · rw [List.eq_of_mem_replicate h1]; omega
    · omega
  · intro x hx
    rw [List.mem_singleton.1 hx]
    omega
  · have hl : 0 < (List.replicate n (-1 : Int)).length := by simpa using h
    have := negs_set (v := 0) hl (by simp) (by omega)
    rw [this]
    unfold negs
    rw [List.countP_replicate]
    simp
theorem dpAll_nil (u : UntN) (f : Nat) (d : List Int) : dpAll u f d [] = some d := by cases f <;> rfl
theorem boxF {W : World} {b : Nat} {c : Array Value} {T : TypeId} (o : Nat) (h : W.heap[b]? = some (.cells c T (0, 0))) : W.frozen? ⟨b, o, none⟩ = false := by simp [World.frozen?, h]
theorem BI.keepBut {w w' : World} {g : Nat} {L : List Int} (h : BI w g L) (hk : KeepBut (fun _ => False) w w') : BI w' g L := by
  obtain ⟨cur, hg, hr⟩ := h
  exact ⟨cur, hk.same g _ (fun h => h) hg rfl, hr⟩
theorem dp_leave {n : Nat} {tmps : Array Value} {R : Ending → World → Prop} {Ds : List Nat} {w W : World} {b2 b3 : Nat} {r0 : Option Addr} {l c : Nat} {r1 : Bool} (h2 : tmps.getD 2 undef = .pointer (some ⟨b2, 0, none⟩)) (h3 : tmps.getD 3 undef = .pointer (some ⟨b3, 0, none⟩)) (hb : Below w.heap.size w W)
    (hds : ∀ D, D ∈ Ds → w.heap.size ≤ D ∧ W.heap[D]? = some (.deferred (some []))) (nd : Ds.Nodup) (c2 : W.cell? ⟨b2, 0, none⟩ = some (.slice r0 l c)) (c3 : W.cell? ⟨b3, 0, none⟩ = some (.bool r1))
    (hR : ∀ W', KeepBut (fun _ => False) W W' → Below w.heap.size w W' → R (.returned (.tuple #[.slice r0 l c, .bool r1])) W') : LeavesInM Fence.wide n Try.prog Try.f65 tmps R (Ds.map markD) .returning W := by
  refine leaves_marks Ds W hb hds nd (fun W' hk hb' => ⟨_, ?_, hR W' hk hb'⟩)
  have d2 := hk.cell (fun h => h.elim) c2
  have d3 := hk.cell (fun h => h.elim) c3
  simp only [Array.getD_eq_getD_getElem?] at h2 h3
  simp [results, Try.results65, h2, h3, d2, d3, go_sem]
/-- What depth returns. -/
def DpRet (u : UntN) (w : World) (e : Ending) (w' : World) : Prop := Below w.heap.size w w' ∧ match depN u with
  | none => e = .returned (.tuple #[.slice none 0 0, .bool false])
  | some d => ∃ g, e = .returned (.tuple #[.slice (some ⟨g, 0, none⟩) u.code.length u.code.length, .bool true]) ∧ BI w' g d ∧ w.heap.size ≤ g
/-- What stands between two rounds of depth's inner loop. -/
structure DpJ (u : UntN) (w : World) (t gO b4 gB : Nat) (d op : List Int) (W0 : World) (pre : List (Int × Int)) (d' op' : List Int) (g off cap : Nat) (W : World) : Prop where
  st : dpLeads u.code t pre (d, op) = some (d', op')
  ok : DpOk u.code.length d' op'
  bi : BI W gO d'
  x5 : W.heap[gB]? = some (.cells #[.slice (some ⟨g, off, none⟩) (op'.length + 1) cap] 33 (0, 0))
  qb : QB W g off cap ((t : Int) :: op')
  o3 : b4 < g
  hk : KeepM (MiO (fun k => k = gO) gB) (WFO (fun k => k = gO) gB) W0 W
  hb : Below w.heap.size w W
  low : ∀ (k : Nat) (o : Obj), k < W0.heap.size → W0.heap[k]? = some o → o.isCells = false → W.heap[k]? = some o
theorem grown_cells {W W' : World} {row : Option Nat} (hg : W.grownBy W' row) (hr : ∀ r, row = some r → ∃ o : Obj, W.heap[r]? = some o ∧ o.isCells = false) {k : Nat} {o : Obj} (h : W.heap[k]? = some o) (ho : o.isCells = true) : W'.heap[k]? = W.heap[k]? := by
  refine hg.block k (Array.getElem?_eq_some_iff.1 h).1 (fun e => ?_)
  obtain ⟨o', h1, h2⟩ := hr k e.symm
  rw [h] at h1
  cases h1
  rw [ho] at h2
  cases h2
theorem KeepM.grown {S : Nat → Prop} {g : Nat} {W0 W W' : World} {row : Option Nat} (h : KeepM (MiO S g) (WFO S g) W0 W) (hg : W.grownBy W' row) (hr : ∀ r, row = some r → ∃ o : Obj, W.heap[r]? = some o ∧ o.isCells = false) : KeepM (MiO S g) (WFO S g) W0 W' := by
  obtain ⟨v, hv⟩ := h.wf.cell
  have hb := block_lt_of_cell hv
  have hc : W.heap[g].isCells = true := by
    unfold World.cell? at hv
    rw [show (⟨g, 0, none⟩ : Addr).block = g from rfl, Array.getElem?_eq_getElem hb] at hv
    cases ho : W.heap[g] <;> simp [ho, Obj.isCells] at hv ⊢
  have e : W'.cell? ⟨g, 0, none⟩ = W.cell? ⟨g, 0, none⟩ := World.cell?_of_block (grown_cells hg hr (Array.getElem?_eq_getElem hb) hc)
  have wf : WFO S g W' := ⟨fun k hk => Nat.lt_of_lt_of_le (h.wf.own k hk) hg.size, ⟨v, e.trans hv⟩, fun b off n c h' => Nat.lt_of_lt_of_le (h.wf.back b off n c (e.symm.trans h')) hg.size⟩
  refine ⟨wf, hg.os.trans h.os, hg.tape.trans h.tape, hg.output.trans h.output, Nat.le_trans h.size hg.size, fun k o m hk ho => ?_⟩
  obtain ⟨h1, h2⟩ := h.same k o m hk ho
  exact ⟨(grown_cells hg hr h1 ho).trans h1, h2.1, h2.2.1, fun b off n c h' => h2.2.2 b off n c (e.symm.trans h')⟩
theorem below_grownF {B : Nat} {w W W' : World} {row : Option Nat} (h : Below B w W) (hg : W.grownBy W' row) (hB : B ≤ W.heap.size) (hr : ∀ r, row = some r → B ≤ r) : Below B w W' :=
  h.trans ⟨hg.os, hg.tape, hg.output, hg.size, fun k hk => hg.block k (by omega) (fun e => by have := hr k e.symm; omega)⟩
theorem low_grown {W0 W W' : World} {row : Option Nat} (h : ∀ (k : Nat) (o : Obj), k < W0.heap.size → W0.heap[k]? = some o → o.isCells = false → W.heap[k]? = some o) (hg : W.grownBy W' row) (hr : ∀ r, row = some r → W0.heap.size ≤ r) :
    ∀ (k : Nat) (o : Obj), k < W0.heap.size → W0.heap[k]? = some o → o.isCells = false → W'.heap[k]? = some o := by
  intro k o hk h1 h2
  have h3 := h k o hk h1 h2
  exact (hg.block k (Array.getElem?_eq_some_iff.1 h3).1 (fun e => by have := hr k e.symm; omega)).trans h3
theorem DpJ.own {u : UntN} {w : World} {t gO b4 gB : Nat} {d op : List Int} {W0 : World} {pre : List (Int × Int)} {d' op' : List Int} {g off cap : Nat} {W W' : World} {row : Option Nat} (h : DpJ u w t gO b4 gB d op W0 pre d' op' g off cap W) (hw : w.heap.size ≤ W0.heap.size) (hg : W.grownBy W' row) (hr : ∀ r, row = some r → W0.heap.size ≤ r ∧ ∃ o : Obj, W.heap[r]? = some o ∧ o.isCells = false) :
    DpJ u w t gO b4 gB d op W0 pre d' op' g off cap W' := by
  have hc := fun {k : Nat} {o : Obj} => grown_cells hg (fun r e => (hr r e).2) (k := k) (o := o)
  obtain ⟨cur, h1⟩ := h.qb.cells
  refine ⟨h.st, h.ok, ?_, (hc h.x5 rfl).trans h.x5, h.qb.keep (hc h1 rfl), h.o3, h.hk.grown hg (fun r e => (hr r e).2), below_grownF h.hb hg h.hb.size (fun r e => Nat.le_trans hw (hr r e).1), low_grown h.low hg (fun r e => (hr r e).1)⟩
  obtain ⟨cur2, h2, _⟩ := h.bi
  exact h.bi.keep (hc h2 rfl)
/-- The next round of the outer loop. -/
theorem DpI.next {u : UntN} {ca : Option Addr} {cc : Nat} {ga : Option Addr} {gc : Nat} {w : World} {gO b4 : Nat} {Ds : List Nat} {d op : List Int} {gB g off cap t : Nat} {wr W0 W : World} {d' op' : List Int} {g' off' cap' D off2 c2 : Nat} (HI : DpI u ca cc ga gc w gO b4 Ds d ((t : Int) :: op) gB g off cap wr) (hbw : Below wr.heap.size wr W0)
    (m1 : MiO (fun k => k = gO) gB W0 w.heap.size) (m2 : MiO (fun k => k = gO) gB W0 (w.heap.size + 1)) (m3 : MiO (fun k => k = gO) gB W0 (w.heap.size + 1 + 1)) (m4 : MiO (fun k => k = gO) gB W0 b4) (hJ : DpJ u w t gO b4 gB d op W0 (leadsL u t) d' op' g' off' cap' W)
    (hin : ∀ x, x ∈ leadsL u t → 0 ≤ x.1 ∧ x.1 < u.code.length) (hD : W0.heap.size ≤ D) (hdef : W.heap[D]? = some (.deferred (some []))) (hq : QB W g' off2 c2 op') :
    DpI u ca cc ga gc w gO b4 (D :: Ds) d' op' W.heap.size g' off2 c2 (W.alloc (.cells #[.slice (some ⟨g', off2, none⟩) op'.length c2] 33)) := by
  have hb := fun {b : Nat} {c : Array Value} {T : TypeId} (h : wr.heap[b]? = some (.cells c T (0, 0))) (m : MiO (fun k => k = gO) gB W0 b) => keepBox (bnew W (.cells #[.slice (some ⟨g', off2, none⟩) op'.length c2] 33)) (hJ.hk.box ⟨(hbw.block b (lt_of_heap h)).trans h, m⟩).1
  have hok : DpOk u.code.length (d, op).1 (d, op).2 := ⟨HI.ok.len, HI.ok.rng, fun x hx => HI.ok.opn x (List.mem_cons_of_mem _ hx)⟩
  have hdl := dpLeads_ok hok hin hJ.st
  have hs0 := hbw.size
  have hs1 := hJ.hk.size
  have l4 := lt_of_heap HI.x4
  have hcn := HI.cnt
  rw [List.length_cons] at hcn
  have hdl2 := hdl.2
  simp only at hdl2
  have hlen : (D :: Ds).length = Ds.length + 1 := rfl
  refine ⟨hJ.hb.step (bnew _ _), hb HI.x1 m1, hb HI.x2 m2, hb HI.x3 m3, hb HI.x4 m4, hJ.bi.below (bnew _ _), heapn _ _ _ rfl, hq.below (bnew _ _), HI.o1, HI.o2, hJ.o3, by omega, ?_, ?_, hdl.1, by omega, ?_⟩
  · intro E hE
    rcases List.mem_cons.1 hE with rfl | h
    · exact ⟨by have := HI.hb.size; omega, ((bnew _ _).block E (Array.getElem?_eq_some_iff.1 hdef).1).trans hdef⟩
    · obtain ⟨k1, k2⟩ := HI.ds E h
      have hl := (Array.getElem?_eq_some_iff.1 k2).1
      have k3 := hJ.low E _ (by omega) ((hbw.block E hl).trans k2) rfl
      exact ⟨k1, ((bnew _ _).block E (Array.getElem?_eq_some_iff.1 k3).1).trans k3⟩
  · exact List.nodup_cons.2 ⟨fun h => by have hl := (Array.getElem?_eq_some_iff.1 (HI.ds D h).2).1; omega, HI.nd⟩
  · have han := HI.ans
    obtain ⟨f, hf⟩ : ∃ f, u.code.length - Ds.length = f + 1 := ⟨u.code.length - Ds.length - 1, by omega⟩
    rw [hf] at han
    unfold dpAll at han
    rw [show ((t : Int)).toNat = t from rfl, hJ.st] at han
    rw [← han, hlen, show u.code.length - (Ds.length + 1) = f by omega]
    rfl
/-- What stands where depth's inner loop has returned. -/
structure DpX (u : UntN) (w : World) (t : Nat) (d op : List Int) (W0 : World) (pre : List (Int × Int)) (W : World) : Prop where
  st : dpLeads u.code t pre (d, op) = none
  x2 : W.heap[w.heap.size + 1]? = some (.cells #[.slice none 0 0] 33)
  x3 : W.heap[w.heap.size + 1 + 1]? = some (.cells #[.bool false] 4)
  hb : Below w.heap.size w W
  low : ∀ (k : Nat) (o : Obj), k < W0.heap.size → W0.heap[k]? = some o → o.isCells = false → W.heap[k]? = some o
theorem DpX.own {u : UntN} {w : World} {t : Nat} {d op : List Int} {W0 : World} {pre : List (Int × Int)} {W W' : World} {row : Option Nat} (h : DpX u w t d op W0 pre W) (hw : w.heap.size ≤ W0.heap.size) (hg : W.grownBy W' row) (hr : ∀ r, row = some r → W0.heap.size ≤ r ∧ ∃ o : Obj, W.heap[r]? = some o ∧ o.isCells = false) : DpX u w t d op W0 pre W' := by
  have hc := fun {k : Nat} {o : Obj} => grown_cells hg (fun r e => (hr r e).2) (k := k) (o := o)
  exact ⟨h.st, (hc h.x2 rfl).trans h.x2, (hc h.x3 rfl).trans h.x3, below_grownF h.hb hg h.hb.size (fun r e => Nat.le_trans hw (hr r e).1), low_grown h.low hg (fun r e => (hr r e).1)⟩
theorem dpLeads_none {code : List InsN} {t : Nat} {p l : List (Int × Int)} {s : List Int × List Int} (h : dpLeads code t p s = none) (hp : p <+: l) : dpLeads code t l s = none := by
  obtain ⟨r, rfl⟩ := hp
  rw [dpLeads_append, h]
  rfl

open Go.RowKit Go.Shelf Go.Sort

/-- No statement of the region puts a call off. -/
def undeferred (l : List Oper) : Bool := l.all fun o => match o.op with | .defer _ => false | _ => true
theorem undeferred_at {l : List Oper} (h : undeferred l = true) {i : Nat} {o : Oper} (ho : l.toArray[i]? = some o) : ∀ c, o.op ≠ .defer c := by
  intro c hc
  have hm : o ∈ l := by
    rw [List.getElem?_toArray] at ho
    exact List.mem_of_getElem? ho
  have := List.all_eq_true.1 h o hm
  rw [hc] at this
  cases this
theorem wpOpIn_inRound {F : Fence} {n : Nat} {P : Program} {l : List Oper} {Q : Exit → Act → World → Prop} {i : Nat} {K : Act → World → Prop} {a : Act} {w : World} {r : Nat} (hro : F.round = none) (hd : undeferred l = true) (h : wpOpIn F n P l.toArray Q i K a w) : wpOpIn (F.inRound r) n P l.toArray Q i K a w := by
  unfold wpOpIn at *
  split
  · rename_i ho
    simp only [ho] at h
    exact h
  · rename_i o ho
    simp only [ho] at h
    split
    · rename_i hw
      simp only [hw, if_true] at h
      obtain ⟨h1, h2⟩ := h
      rw [hro, Oper.semAt_none] at h2
      refine ⟨h1, ?_⟩
      rw [Fence.inRound_round, Oper.semAt_some _ _ _ (undeferred_at hd ho)]
      exact h2
    · rename_i hw
      simp only [hw] at h
      exact h
theorem wpOpIn_le {F : Fence} {n : Nat} {P : Program} {ops : Array Oper} {Q : Exit → Act → World → Prop} {i : Nat} {K K' : Act → World → Prop} {a : Act} {w : World} (h : ∀ a w, K a w → K' a w) (hh : wpOpIn F n P ops Q i K a w) : wpOpIn F n P ops Q i K' a w := wpOpIn_mono h hh
theorem wpAnyIn_inRound {F : Fence} {n : Nat} {P : Program} {l : List Oper} {Q : Exit → Act → World → Prop} {md : Region.Mode} {r : Nat} (hro : F.round = none) (hd : undeferred l = true) :
    ∀ (fuel : Nat) (listed : Array Bool) (a : Act) (w : World), wpAnyIn F n P md l.toArray Q fuel listed a w → wpAnyIn (F.inRound r) n P md l.toArray Q fuel listed a w
  | 0, _, _, _, h => h
  | fuel + 1, _, _, _, h => ⟨h.1, fun i hi => wpOpIn_inRound hro hd (wpOpIn_le (fun a w => wpAnyIn_inRound hro hd fuel _ a w) (h.2 i hi))⟩
/-- A region that draws its order, in a round, walked once. -/
theorem wpIn_region_round {F : Fence} {n : Nat} {P : Program} {id : Nat} {Q : Exit → Act → World → Prop} {a : Act} {w : World} {l : List Oper} {r : Nat} (hro : F.round = none) (hm : P.follows .mixedOrders = true) (hB : Region.lexB .any l.toArray = true) (hd : undeferred l = true)
    (h : wpQuietIn F n P l.toArray (fun w' => ∃ p : Regrown, w' = grow (redrawn w p.d) p.os) (fun a' => ∀ w', (∃ p : Regrown, w' = grow (redrawn w p.d) p.os) → Q .normal a' w') l a) : (Code.region id l.toArray true).wpIn (F.inRound r) n P Q a w := by
  simp only [Region.lexB, Bool.and_eq_true] at hB
  refine wpIn_region_any hm (wpAnyIn_inRound hro hd _ _ _ _ (wpAnyIn_of_quiet (C := fun w' => ∃ p : Regrown, w' = grow (redrawn w p.d) p.os) (Q := fun a' => ∀ w', (∃ p : Regrown, w' = grow (redrawn w p.d) p.os) → Q .normal a' w') hro (fun _ w' hw' h => h w' hw') _ _ _ _ ⟨⟨w.drawn + 1, #[]⟩, by rw [grow_empty]; rfl⟩ ?_))
  have := wpAnyQIn_lex (F := F) (n := n) (C := fun w' => ∃ p : Regrown, w' = grow (redrawn w p.d) p.os) (md := .any) hB.1 l.toArray.toList 0 (Array.replicate l.toArray.size false) a (by simp) (by simpa using hB.2) (by simpa using h)
  simpa using this

open Go.RowKit Go.Shelf

theorem dpLeads_snoc {code : List InsN} {t : Nat} {pre : List (Int × Int)} {x : Int × Int} {s s' : List Int × List Int} (h : dpLeads code t pre s = some s') : dpLeads code t (pre ++ [x]) s = dpLead code t s' x := by
  rw [dpLeads_append, h]
  show (dpLead code t s' x).bind (dpLeads code t []) = _
  cases dpLead code t s' x <;> rfl
theorem dpLead_eq {code : List InsN} {t k : Nat} {d op : List Int} {how : Int} (ht : t < code.length) (hd : t < d.length) (hk : k < d.length) : dpLead code t (d, op) ((k : Int), how) =
    if dpBad (if how = 2 then 0 else d[t] + changeN code[t] how) d[k] = true then none else if d[k] < 0 then some (d.set k (if how = 2 then 0 else d[t] + changeN code[t] how), op ++ [(k : Int)]) else some (d, op) := by
  unfold dpLead dpVal
  simp only [getD_in ht, getD_in hd, show ((k : Int)).toNat = k from rfl, getD_in hk]
theorem ldV_snoc {u : UntN} {t : Nat} (pre : List (LdX u t)) (x : LdX u t) : ldV (pre ++ [x]) = ldV pre ++ [x.1] := by simp [ldV]
section
variable {u : UntN} {w : World} {t gO b4 gB : Nat} {d op : List Int} {W0 : World} {pre : List (Int × Int)} {d' op' : List Int} {g off cap : Nat} {W W1 : World} {x : Int × Int}
/-- The round returns. -/
theorem DpJ.stop (HJ : DpJ u w t gO b4 gB d op W0 pre d' op' g off cap W) (hb : Below W.heap.size W W1) (hdp : dpLead u.code t (d', op') x = none) (h2 : W0.heap[w.heap.size + 1]? = some (.cells #[.slice none 0 0] 33)) (h3 : W0.heap[w.heap.size + 1 + 1]? = some (.cells #[.bool false] 4))
    (m2 : MiO (fun k => k = gO) gB W0 (w.heap.size + 1)) (m3 : MiO (fun k => k = gO) gB W0 (w.heap.size + 1 + 1)) :
    KeepsOthers W ((W1.setCell ⟨w.heap.size + 1, 0, none⟩ (.slice none 0 0)).setCell ⟨w.heap.size + 1 + 1, 0, none⟩ (.bool false)) ∧ DpX u w t d op W0 (pre ++ [x]) ((W1.setCell ⟨w.heap.size + 1, 0, none⟩ (.slice none 0 0)).setCell ⟨w.heap.size + 1 + 1, 0, none⟩ (.bool false)) := by
  have k2 := keepBox hb (HJ.hk.box ⟨h2, m2⟩).1
  have k3 := keepBox hb (HJ.hk.box ⟨h3, m3⟩).1
  have ho : KeepsOthers W ((W1.setCell ⟨w.heap.size + 1, 0, none⟩ (.slice none 0 0)).setCell ⟨w.heap.size + 1 + 1, 0, none⟩ (.bool false)) := (((Touch.below (S := fun _ => False) hb (Nat.le_refl _)).others).trans (KeepsOthers.setCell _ _ _)).trans (KeepsOthers.setCell _ _ _)
  refine ⟨ho, (dpLeads_snoc HJ.st).trans hdp, ?_, ?_, ?_, fun k o hk h1 h2' => ho.same k o (HJ.low k o hk h1 h2') h2'⟩
  · rw [heap_setCell_other _ _ _ _ (by simp)]
    exact heap_setCell_same _ _ _ _ _ _ k2
  · exact heap_setCell_same _ _ 0 #[.bool false] 4 (.bool false) (by rw [heap_setCell_other _ _ _ _ (by simp)]; exact k3)
  · exact ((HJ.hb.step hb).setCell (p := ⟨w.heap.size + 1, 0, none⟩) (by simp) _).setCell (p := ⟨w.heap.size + 1 + 1, 0, none⟩) (by show w.heap.size ≤ w.heap.size + 1 + 1; omega) _
/-- The round changes nothing. -/
theorem DpJ.same (HJ : DpJ u w t gO b4 gB d op W0 pre d' op' g off cap W) (hb : Below W.heap.size W W1) (hdp : dpLead u.code t (d', op') x = some (d', op')) :
    KeepsOthers W W1 ∧ KeepM (MiO (fun k => k = gO) gB) (WFO (fun k => k = gO) gB) W W1 ∧ DpJ u w t gO b4 gB d op W0 (pre ++ [x]) d' op' g off cap W1 := by
  have hk := KeepM.of_below (fenc_own (fun k => k = gO) gB) HJ.hk.wf hb
  have ho := (Touch.below (S := fun _ => False) hb (Nat.le_refl _)).others
  exact ⟨ho, hk, (dpLeads_snoc HJ.st).trans hdp, HJ.ok, HJ.bi.below hb, keepBox hb HJ.x5, HJ.qb.below hb, HJ.o3, HJ.hk.trans hk, HJ.hb.step hb, fun k o hk h1 h2 => ho.same k o (HJ.low k o hk h1 h2) h2⟩
/-- The round finds a new place. -/
theorem DpJ.new {k : Nat} {how v : Int} {W4 : World} {g2 off2 cap2 : Nat} (HJ : DpJ u w t gO b4 gB d op W0 pre d' op' g off cap W) (hb : Below W.heap.size W W1) (hx : 0 ≤ (k : Int) ∧ (k : Int) < u.code.length) (hdp : dpLead u.code t (d', op') ((k : Int), how) = some (d'.set k v, op' ++ [(k : Int)])) (hgO : gO < b4) (hw0 : w.heap.size ≤ gO) (hw1 : b4 < gB)
    (hq : QB W4 g2 off2 cap2 (((t : Int) :: op') ++ [(k : Int)])) (hg : ((W1.setCell ⟨gO, k, none⟩ (.int .i64 v)).alloc (.cells #[.int .i64 k] 3)).grownBy W4 (some g)) (hg2 : g2 = g ∨ g2 = ((W1.setCell ⟨gO, k, none⟩ (.int .i64 v)).alloc (.cells #[.int .i64 k] 3)).heap.size) :
    KeepsOthers W (W4.setCell ⟨gB, 0, none⟩ (.slice (some ⟨g2, off2, none⟩) ((((t : Int) :: op').length) + 1) cap2)) ∧ KeepM (MiO (fun k => k = gO) gB) (WFO (fun k => k = gO) gB) W (W4.setCell ⟨gB, 0, none⟩ (.slice (some ⟨g2, off2, none⟩) ((((t : Int) :: op').length) + 1) cap2)) ∧
      DpJ u w t gO b4 gB d op W0 (pre ++ [((k : Int), how)]) (d'.set k v) (op' ++ [(k : Int)]) g2 off2 cap2 (W4.setCell ⟨gB, 0, none⟩ (.slice (some ⟨g2, off2, none⟩) ((((t : Int) :: op').length) + 1) cap2)) := by
  obtain ⟨cur, hcg⟩ := HJ.qb.cells
  have lg := HJ.qb.lt
  have lB := lt_of_heap HJ.x5
  have lO := HJ.bi.lt
  have o3 := HJ.o3
  have sz1 := hb.size
  have ngB : gB ≠ g := fun e => by
    subst e
    have h := hcg.symm.trans HJ.x5
    simp at h
  have h1g := keepBox hb hcg
  have h1B := keepBox hb HJ.x5
  have e2 : (W1.setCell ⟨gO, k, none⟩ (.int .i64 v)).heap.size = W1.heap.size := by simp
  have e3 : ((W1.setCell ⟨gO, k, none⟩ (.int .i64 v)).alloc (.cells #[.int .i64 k] 3)).heap.size = W1.heap.size + 1 := by simp
  have h3 : ∀ j, j < W1.heap.size → j ≠ gO → ((W1.setCell ⟨gO, k, none⟩ (.int .i64 v)).alloc (.cells #[.int .i64 k] 3)).heap[j]? = W1.heap[j]? := by
    intro j hj hn
    rw [(bnew _ _).block j (by rw [e2]; exact hj), heap_setCell_other _ _ _ _ hn]
  have h3g := (h3 g (by omega) (by omega)).trans h1g
  have h3B := (h3 gB (by omega) (by omega)).trans h1B
  have h4B := (hg.block gB (by omega) (fun e => ngB (by cases e; rfl))).trans h3B
  have sz4 := hg.size
  have T : Touch W.heap.size (fun j => j = gO ∨ j = gB ∨ j = g) W (W4.setCell ⟨gB, 0, none⟩ (.slice (some ⟨g2, off2, none⟩) ((((t : Int) :: op').length) + 1) cap2)) := by
    refine (((((Touch.below hb (Nat.le_refl _)).trans (Touch.put ⟨gO, k, none⟩ _ (.inl (.inl rfl)))).trans (Touch.below (bnew _ _) (by rw [e2]; exact sz1))).trans (Touch.grown hg (.inl (.inr (.inr rfl))) h3g (by omega))).trans (Touch.put ⟨gB, 0, none⟩ _ (.inl (.inr (.inl rfl)))))
  have hx5 : (W4.setCell ⟨gB, 0, none⟩ (.slice (some ⟨g2, off2, none⟩) ((((t : Int) :: op').length) + 1) cap2)).heap[gB]? = some (.cells #[.slice (some ⟨g2, off2, none⟩) ((op' ++ [(k : Int)]).length + 1) cap2] 33 (0, 0)) := by
    rw [heap_setCell_same _ _ _ _ _ _ h4B]
    simp
  have hc5 := (cell_of_row _ _ 0 _ _ _ hx5).trans rfl
  have lq := hq.lt
  have wf : WFO (fun j => j = gO) gB (W4.setCell ⟨gB, 0, none⟩ (.slice (some ⟨g2, off2, none⟩) ((((t : Int) :: op').length) + 1) cap2)) :=
    ⟨fun j hj => by rw [hj]; simp; omega, ⟨_, hc5⟩, fun b o n c h => by rw [hc5] at h; cases h; simpa using lq⟩
  have c5W : W.cell? ⟨gB, 0, none⟩ = some (.slice (some ⟨g, off, none⟩) (op'.length + 1) cap) := (cell_of_row _ _ 0 _ _ _ HJ.x5).trans rfl
  have hk : KeepM (MiO (fun k => k = gO) gB) (WFO (fun k => k = gO) gB) W (W4.setCell ⟨gB, 0, none⟩ (.slice (some ⟨g2, off2, none⟩) ((((t : Int) :: op').length) + 1) cap2)) := by
    refine T.keepM (fun j hj m => ?_) wf (fun j hj m => ⟨m.1, m.2.1, fun b o n c h => ?_⟩)
    · rcases hj with h | h | h
      · exact m.1 h
      · exact m.2.1 h
      · exact m.2.2 _ _ _ _ c5W h
    · rw [hc5] at h
      cases h
      rcases hg2 with h | h
      · rw [h]
        exact m.2.2 _ _ _ _ c5W
      · omega
  have hdo := dpLead_ok (s := (d', op')) HJ.ok hx hdp
  refine ⟨T.others, hk, (dpLeads_snoc HJ.st).trans hdp, hdo.1, ?_, hx5, hq.keep (heap_setCell_other _ _ _ _ ?_), ?_, HJ.hk.trans hk, ?_, fun j o hj h1 h2 => T.others.same j o (HJ.low j o hj h1 h2) h2⟩
  · have b1 := ((HJ.bi.below hb).set (i := k) (by rw [HJ.ok.len]; omega) v).below (bnew _ (.cells #[.int .i64 k] 3))
    exact (b1.keep (hg.block gO (by omega) (fun e => by cases e; omega))).keep (heap_setCell_other _ _ _ _ (by show gO ≠ gB; omega))
  · show g2 ≠ gB
    rcases hg2 with h | h <;> omega
  · rcases hg2 with h | h <;> omega
  · have hb1 := ((HJ.hb.step hb).setCell (p := ⟨gO, k, none⟩) hw0 (.int .i64 v)).step (bnew _ (.cells #[.int .i64 k] 3))
    refine (below_grownF hb1 hg hb1.size (fun r e => by cases e; omega)).setCell (p := ⟨gB, 0, none⟩) ?_ _
    show w.heap.size ≤ gB
    omega
end
end Go.Proofs.Ytecpkjhfbmchgaa
