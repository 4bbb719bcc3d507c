/- What the argument of TableOfProgram is: a program in memory (the join of its parts). -/
import Derived.Test.YtecpkjhfbmchgaaU40
namespace Go.Proofs.Ytecpkjhfbmchgaa
open Go.ChangeShapes Go.WideShapes Go.ChangeAt Go.RowKit Go.Deep

section
variable {H : Type} {enc : TypeId × Value → H} {W : World}
set_option maxRecDepth 100000 in
theorem ins_trod {fuel : Nat} {cs : List Value} {x : DataW H × List MemPlace} (hf : DataW.trod enc Try.prog W 0 (fun _ => true) true fuel 93 cs = some x) :
    ∃ (l : List InsN) (a : Option Addr) (cap : Nat), cs = [.slice a l.length cap] ∧ RdC W a l ∧ l.length ≤ 9223372036854775807 ∧ l.length ≤ cap := by
  have hs : (Try.prog.fieldsOf 113).size = 4 := by kernel_rfl
  obtain ⟨a0, len, cap, hcs, hlen, hcap, hi⟩ := struct_slice (ts := 93) (t := 113) (fs := Try.prog.fieldsOf 113) (by kernel_rfl) (by kernel_rfl) (by kernel_rfl) (by kernel_rfl) (by rw [hs]; decide) hf
  rw [hs] at hi
  obtain ⟨l, hl, hq⟩ := choose_list (Q := fun i (s : InsN) => (∃ b off, a0 = some ⟨b, off, none⟩ ∧ b < W.heap.size ∧ W.cell? ⟨b, off + i * 4, none⟩ = some (.int .i64 s.op) ∧ W.cell? ⟨b, off + i * 4 + 1, none⟩ = some (.int .i64 s.a) ∧ W.cell? ⟨b, off + i * 4 + 2, none⟩ = some (.int .i64 s.b) ∧ W.cell? ⟨b, off + i * 4 + 3, none⟩ = some (.int .i64 s.c))) len (by
    intro i hilt
    obtain ⟨b, off, ha, hb, cs', hc, hT⟩ := hi i hilt
    obtain ⟨n0, x0, h0⟩ := hT 0 3 (by kernel_rfl)
    obtain ⟨z0, e0, _⟩ := DataW.trod_int Try.underlying3 h0
    have c0 := (hc 0 (by decide)).trans (drop_one e0)
    obtain ⟨n1, x1, h1⟩ := hT 1 3 (by kernel_rfl)
    obtain ⟨z1, e1, _⟩ := DataW.trod_int Try.underlying3 h1
    have c1 := (hc 1 (by decide)).trans (drop_one e1)
    obtain ⟨n2, x2, h2⟩ := hT 2 3 (by kernel_rfl)
    obtain ⟨z2, e2, _⟩ := DataW.trod_int Try.underlying3 h2
    have c2 := (hc 2 (by decide)).trans (drop_one e2)
    obtain ⟨n3, x3, h3⟩ := hT 3 3 (by kernel_rfl)
    obtain ⟨z3, e3, _⟩ := DataW.trod_int Try.underlying3 h3
    have c3 := (hc 3 (by decide)).trans (drop_one e3)
    exact ⟨⟨z0, z1, z2, z3⟩, b, off, ha, hb, c0, c1, c2, c3⟩)
  exact ⟨l, a0, cap, by rw [hl]; exact hcs, fun i hi => hq i hi, by omega, by omega⟩
set_option maxRecDepth 100000 in
theorem grd_trod {fuel : Nat} {cs : List Value} {x : DataW H × List MemPlace} (hf : DataW.trod enc Try.prog W 0 (fun _ => true) true fuel 94 cs = some x) :
    ∃ (l : List GrdN) (a : Option Addr) (cap : Nat), cs = [.slice a l.length cap] ∧ RdD W a l ∧ l.length ≤ 9223372036854775807 ∧ l.length ≤ cap := by
  have hs : (Try.prog.fieldsOf 124).size = 3 := by kernel_rfl
  obtain ⟨a0, len, cap, hcs, hlen, hcap, hi⟩ := struct_slice (ts := 94) (t := 124) (fs := Try.prog.fieldsOf 124) (by kernel_rfl) (by kernel_rfl) (by kernel_rfl) (by kernel_rfl) (by rw [hs]; decide) hf
  rw [hs] at hi
  obtain ⟨l, hl, hq⟩ := choose_list (Q := fun i (s : GrdN) => (∃ b off, a0 = some ⟨b, off, none⟩ ∧ b < W.heap.size ∧ W.cell? ⟨b, off + i * 3, none⟩ = some (.int .i64 s.frm) ∧ W.cell? ⟨b, off + i * 3 + 1, none⟩ = some (.int .i64 s.til) ∧ W.cell? ⟨b, off + i * 3 + 2, none⟩ = some (.int .i64 s.at'))) len (by
    intro i hilt
    obtain ⟨b, off, ha, hb, cs', hc, hT⟩ := hi i hilt
    obtain ⟨n0, x0, h0⟩ := hT 0 3 (by kernel_rfl)
    obtain ⟨z0, e0, _⟩ := DataW.trod_int Try.underlying3 h0
    have c0 := (hc 0 (by decide)).trans (drop_one e0)
    obtain ⟨n1, x1, h1⟩ := hT 1 3 (by kernel_rfl)
    obtain ⟨z1, e1, _⟩ := DataW.trod_int Try.underlying3 h1
    have c1 := (hc 1 (by decide)).trans (drop_one e1)
    obtain ⟨n2, x2, h2⟩ := hT 2 3 (by kernel_rfl)
    obtain ⟨z2, e2, _⟩ := DataW.trod_int Try.underlying3 h2
    have c2 := (hc 2 (by decide)).trans (drop_one e2)
    exact ⟨⟨z0, z1, z2⟩, b, off, ha, hb, c0, c1, c2⟩)
  exact ⟨l, a0, cap, by rw [hl]; exact hcs, fun i hi => hq i hi, by omega, by omega⟩
set_option maxRecDepth 100000 in
theorem sel_trod {fuel : Nat} {cs : List Value} {x : DataW H × List MemPlace} (hf : DataW.trod enc Try.prog W 0 (fun _ => true) true fuel 23 cs = some x) :
    ∃ (l : List SelN) (a : Option Addr) (cap : Nat), cs = [.slice a l.length cap] ∧ RdS W a l ∧ l.length ≤ 9223372036854775807 ∧ l.length ≤ cap ∧ ∀ s, s ∈ l → s.cls.size ≤ 9223372036854775807 ∧ s.name.size ≤ 9223372036854775807 := by
  have hs : (Try.prog.fieldsOf 89).size = 4 := by kernel_rfl
  obtain ⟨a0, len, cap, hcs, hlen, hcap, hi⟩ := struct_slice (ts := 23) (t := 89) (fs := Try.prog.fieldsOf 89) (by kernel_rfl) (by kernel_rfl) (by kernel_rfl) (by kernel_rfl) (by rw [hs]; decide) hf
  rw [hs] at hi
  obtain ⟨l, hl, hq⟩ := choose_list (Q := fun i (s : SelN) => (∃ b off, a0 = some ⟨b, off, none⟩ ∧ b < W.heap.size ∧ W.cell? ⟨b, off + i * 4, none⟩ = some (.string s.cls) ∧ W.cell? ⟨b, off + i * 4 + 1, none⟩ = some (.string s.name) ∧ W.cell? ⟨b, off + i * 4 + 2, none⟩ = some (.int .i64 s.args) ∧ W.cell? ⟨b, off + i * 4 + 3, none⟩ = some (.bool s.res)) ∧ s.cls.size ≤ 9223372036854775807 ∧ s.name.size ≤ 9223372036854775807) len (by
    intro i hilt
    obtain ⟨b, off, ha, hb, cs', hc, hT⟩ := hi i hilt
    obtain ⟨n0, x0, h0⟩ := hT 0 9 (by kernel_rfl)
    obtain ⟨z0, e0, _, m0⟩ := DataW.trod_string Try.underlying9 h0
    have c0 := (hc 0 (by decide)).trans (drop_one e0)
    obtain ⟨n1, x1, h1⟩ := hT 1 9 (by kernel_rfl)
    obtain ⟨z1, e1, _, m1⟩ := DataW.trod_string Try.underlying9 h1
    have c1 := (hc 1 (by decide)).trans (drop_one e1)
    obtain ⟨n2, x2, h2⟩ := hT 2 3 (by kernel_rfl)
    obtain ⟨z2, e2, _⟩ := DataW.trod_int Try.underlying3 h2
    have c2 := (hc 2 (by decide)).trans (drop_one e2)
    obtain ⟨n3, x3, h3⟩ := hT 3 4 (by kernel_rfl)
    obtain ⟨z3, e3, _⟩ := DataW.trod_bool Try.underlying4 h3
    have c3 := (hc 3 (by decide)).trans (drop_one e3)
    exact ⟨⟨z0, z1, z2, z3⟩, ⟨b, off, ha, hb, c0, c1, c2, c3⟩, m0, m1⟩)
  exact ⟨l, a0, cap, by rw [hl]; exact hcs, fun i hi => (hq i hi).1, by omega, by omega, fun s hm => by
    obtain ⟨i, hi, rfl⟩ := List.getElem_of_mem hm
    exact (hq i hi).2⟩
set_option maxRecDepth 100000 in
theorem shp_trod {fuel : Nat} {cs : List Value} {x : DataW H × List MemPlace} (hf : DataW.trod enc Try.prog W 0 (fun _ => true) true fuel 22 cs = some x) :
    ∃ (l : List ShpN) (a : Option Addr) (cap : Nat), cs = [.slice a l.length cap] ∧ RdH W a l ∧ l.length ≤ 9223372036854775807 ∧ l.length ≤ cap ∧ ∀ s, s ∈ l → s.name.size ≤ 9223372036854775807 ∧ s.fields.length ≤ 9223372036854775807 ∧ s.table.length ≤ 9223372036854775807 ∧ ∀ e, e ∈ s.table → -9223372036854775808 ≤ e := by
  have hs : (Try.prog.fieldsOf 35).size = 4 := by kernel_rfl
  obtain ⟨a0, len, cap, hcs, hlen, hcap, hi⟩ := struct_slice (ts := 22) (t := 35) (fs := Try.prog.fieldsOf 35) (by kernel_rfl) (by kernel_rfl) (by kernel_rfl) (by kernel_rfl) (by rw [hs]; decide) hf
  rw [hs] at hi
  obtain ⟨l, hl, hq⟩ := choose_list (Q := fun i (s : ShpN) => (∃ b off fa fc ta tc, a0 = some ⟨b, off, none⟩ ∧ b < W.heap.size ∧ W.cell? ⟨b, off + i * 4, none⟩ = some (.string s.name) ∧ W.cell? ⟨b, off + i * 4 + 1, none⟩ = some (.slice fa s.fields.length fc) ∧ W.cell? ⟨b, off + i * 4 + 2, none⟩ = some (.slice ta s.table.length tc) ∧ W.cell? ⟨b, off + i * 4 + 3, none⟩ = some (.int .i64 s.inv) ∧ RdI W fa s.fields ∧ RdI W ta s.table ∧ s.table.length ≤ tc) ∧ s.name.size ≤ 9223372036854775807 ∧ s.fields.length ≤ 9223372036854775807 ∧ s.table.length ≤ 9223372036854775807 ∧ ∀ e, e ∈ s.table → -9223372036854775808 ≤ e) len (by
    intro i hilt
    obtain ⟨b, off, ha, hb, cs', hc, hT⟩ := hi i hilt
    obtain ⟨n0, x0, h0⟩ := hT 0 9 (by kernel_rfl)
    obtain ⟨z0, e0, _, m0⟩ := DataW.trod_string Try.underlying9 h0
    have c0 := (hc 0 (by decide)).trans (drop_one e0)
    obtain ⟨n1, x1, h1⟩ := hT 1 33 (by kernel_rfl)
    obtain ⟨z1, a1, k1, e1, r1, m1, g1, o1⟩ := nums_trod h1
    have c1 := (hc 1 (by decide)).trans (drop_one e1)
    obtain ⟨n2, x2, h2⟩ := hT 2 33 (by kernel_rfl)
    obtain ⟨z2, a2, k2, e2, r2, m2, g2, o2⟩ := nums_trod h2
    have c2 := (hc 2 (by decide)).trans (drop_one e2)
    obtain ⟨n3, x3, h3⟩ := hT 3 3 (by kernel_rfl)
    obtain ⟨z3, e3, _⟩ := DataW.trod_int Try.underlying3 h3
    have c3 := (hc 3 (by decide)).trans (drop_one e3)
    exact ⟨⟨z0, z1, z2, z3⟩, ⟨b, off, a1, k1, a2, k2, ha, hb, c0, c1, c2, c3, r1, r2, g2⟩, m0, m1, m2, o2⟩)
  exact ⟨l, a0, cap, by rw [hl]; exact hcs, fun i hi => (hq i hi).1, by omega, by omega, fun s hm => by
    obtain ⟨i, hi, rfl⟩ := List.getElem_of_mem hm
    exact (hq i hi).2⟩
set_option maxRecDepth 100000 in
theorem unt_trod {fuel : Nat} {cs : List Value} {x : DataW H × List MemPlace} (hf : DataW.trod enc Try.prog W 0 (fun _ => true) true fuel 24 cs = some x) :
    ∃ (l : List UntN) (a : Option Addr) (cap : Nat), cs = [.slice a l.length cap] ∧ RdU W a l ∧ l.length ≤ 9223372036854775807 ∧ l.length ≤ cap ∧ ∀ s, s ∈ l → s.cls.size ≤ 9223372036854775807 ∧ s.name.size ≤ 9223372036854775807 := by
  have hs : (Try.prog.fieldsOf 96).size = 7 := by kernel_rfl
  obtain ⟨a0, len, cap, hcs, hlen, hcap, hi⟩ := struct_slice (ts := 24) (t := 96) (fs := Try.prog.fieldsOf 96) (by kernel_rfl) (by kernel_rfl) (by kernel_rfl) (by kernel_rfl) (by rw [hs]; decide) hf
  rw [hs] at hi
  obtain ⟨l, hl, hq⟩ := choose_list (Q := fun i (s : UntN) => (∃ b off ca cc ga gc, a0 = some ⟨b, off, none⟩ ∧ b < W.heap.size ∧ W.cell? ⟨b, off + i * 7, none⟩ = some (.string s.cls) ∧ W.cell? ⟨b, off + i * 7 + 1, none⟩ = some (.string s.name) ∧ W.cell? ⟨b, off + i * 7 + 2, none⟩ = some (.int .i64 s.args) ∧ W.cell? ⟨b, off + i * 7 + 3, none⟩ = some (.int .i64 s.slots) ∧ W.cell? ⟨b, off + i * 7 + 4, none⟩ = some (.int .i64 s.frame) ∧ W.cell? ⟨b, off + i * 7 + 5, none⟩ = some (.slice ca s.code.length cc) ∧ W.cell? ⟨b, off + i * 7 + 6, none⟩ = some (.slice ga s.guards.length gc) ∧ UnM W s ca cc ga gc) ∧ s.cls.size ≤ 9223372036854775807 ∧ s.name.size ≤ 9223372036854775807) len (by
    intro i hilt
    obtain ⟨b, off, ha, hb, cs', hc, hT⟩ := hi i hilt
    obtain ⟨n0, x0, h0⟩ := hT 0 9 (by kernel_rfl)
    obtain ⟨z0, e0, _, m0⟩ := DataW.trod_string Try.underlying9 h0
    have c0 := (hc 0 (by decide)).trans (drop_one e0)
    obtain ⟨n1, x1, h1⟩ := hT 1 9 (by kernel_rfl)
    obtain ⟨z1, e1, _, m1⟩ := DataW.trod_string Try.underlying9 h1
    have c1 := (hc 1 (by decide)).trans (drop_one e1)
    obtain ⟨n2, x2, h2⟩ := hT 2 3 (by kernel_rfl)
    obtain ⟨z2, e2, _⟩ := DataW.trod_int Try.underlying3 h2
    have c2 := (hc 2 (by decide)).trans (drop_one e2)
    obtain ⟨n3, x3, h3⟩ := hT 3 3 (by kernel_rfl)
    obtain ⟨z3, e3, _⟩ := DataW.trod_int Try.underlying3 h3
    have c3 := (hc 3 (by decide)).trans (drop_one e3)
    obtain ⟨n4, x4, h4⟩ := hT 4 3 (by kernel_rfl)
    obtain ⟨z4, e4, _⟩ := DataW.trod_int Try.underlying3 h4
    have c4 := (hc 4 (by decide)).trans (drop_one e4)
    obtain ⟨n5, x5, h5⟩ := hT 5 93 (by kernel_rfl)
    obtain ⟨z5, a5, k5, e5, r5, m5, g5⟩ := ins_trod h5
    have c5 := (hc 5 (by decide)).trans (drop_one e5)
    obtain ⟨n6, x6, h6⟩ := hT 6 94 (by kernel_rfl)
    obtain ⟨z6, a6, k6, e6, r6, m6, g6⟩ := grd_trod h6
    have c6 := (hc 6 (by decide)).trans (drop_one e6)
    exact ⟨⟨z0, z1, z2, z3, z4, z5, z6⟩, ⟨b, off, a5, k5, a6, k6, ha, hb, c0, c1, c2, c3, c4, c5, c6, ⟨r5, r6, g5, g6⟩⟩, m0, m1⟩)
  exact ⟨l, a0, cap, by rw [hl]; exact hcs, fun i hi => (hq i hi).1, by omega, by omega, fun s hm => by
    obtain ⟨i, hi, rfl⟩ := List.getElem_of_mem hm
    exact (hq i hi).2⟩
set_option maxRecDepth 100000 in
theorem open_program {v : Value} {r : Reach} {base : Nat} {d : DataW H} {ps : List MemPlace} (hv : Value.okWide Try.prog W r base 26 v) (h : DataW.Trod enc Try.prog W 0 (fun _ => true) true 26 v d ps) :
    ∃ (p : PrgN) (q : PlN), v = vP p q ∧ (p.shapes.length ≤ 6 ∧ p.sels.length ≤ 30 ∧ p.units.length ≤ 12 → PgOk W p q) := by
  have hu : Try.prog.underlying 26 = some (.struct (Try.prog.fieldsOf 26)) := by kernel_rfl
  obtain ⟨cs, rfl, hsz⟩ := okWide_struct hu hv
  have h5 : Try.prog.cellsOf 26 = 5 := by kernel_rfl
  rw [h5] at hsz
  obtain ⟨fuel, hf⟩ := h
  have hz0 := field_trod hu (by kernel_rfl) hf
  have hz : ∀ j T, ((Try.prog.fieldsOf 26)[j]?).map (·.type) = some T → ∃ n x, DataW.trod enc Try.prog W 0 (fun _ => true) true n T ((cs.toList.drop j).take 1) = some x := by
    intro j T hT
    cases hj : (Try.prog.fieldsOf 26)[j]? with
    | none => rw [hj] at hT; cases hT
    | some f =>
      rw [hj] at hT
      cases hT
      exact hz0 j f hj
  obtain ⟨l⟩ := cs
  obtain ⟨n0, x0, h0⟩ := hz 0 22 (by kernel_rfl)
  obtain ⟨n1, x1, h1⟩ := hz 1 23 (by kernel_rfl)
  obtain ⟨n2, x2, h2⟩ := hz 2 24 (by kernel_rfl)
  obtain ⟨n3, x3, h3⟩ := hz 3 3 (by kernel_rfl)
  obtain ⟨n4, x4, h4⟩ := hz 4 3 (by kernel_rfl)
  clear hf hz hz0
  obtain ⟨A, aa, ak, e0, p0, _, q0, t0⟩ := shp_trod h0
  obtain ⟨B, ba, bk, e1, p1, _, q1, t1⟩ := sel_trod h1
  obtain ⟨C, ca, ck, e2, p2, _, q2, t2⟩ := unt_trod h2
  obtain ⟨z3, e3, _⟩ := DataW.trod_int Try.underlying3 h3
  obtain ⟨z4, e4, _⟩ := DataW.trod_int Try.underlying3 h4
  match l, hsz with
  | [c0, c1, c2, c3, c4], _ =>
    have g0 := (List.cons.inj (show [c0] = [Value.slice aa A.length ak] from e0)).1
    have g1 := (List.cons.inj (show [c1] = [Value.slice ba B.length bk] from e1)).1
    have g2 := (List.cons.inj (show [c2] = [Value.slice ca C.length ck] from e2)).1
    have g3 := (List.cons.inj (show [c3] = [Value.int .i64 z3] from e3)).1
    have g4 := (List.cons.inj (show [c4] = [Value.int .i64 z4] from e4)).1
    clear e0 e1 e2 e3 e4
    subst g0 g1 g2 g3 g4
    exact ⟨⟨A, B, C, z3, z4⟩, ⟨aa, ak, ba, bk, ca, ck⟩, rfl, fun ⟨k0, k1, k2⟩ => ⟨⟨p0, p1, p2⟩, Nat.le_trans k0 (by decide), Nat.le_trans k1 (by decide), Nat.le_trans k2 (by decide), q0, t1, t0, t2⟩⟩
end

theorem stays {H : Type} {enc : TypeId × Value → H} {t : TypeId} (hr : Try.prog.readableRec t = true) (hrow : t < Try.prog.types.size) {W W' : World} {v : Value} {d : DataW H} {ps : List MemPlace}
    (h : DataW.Trod enc Try.prog W 0 (fun _ => true) true t v d ps) (hb : Below W.heap.size W W') (hlt : ∀ x ∈ ps, x.block < W.heap.size) : DataW.Trod enc Try.prog W' 0 (fun b => decide (b < W.heap.size)) true t v d ps :=
  Below.trod Try.laidOut hr hrow h hb hlt

theorem read5 : Try.prog.readableRec 5 = true := by kernel_rfl
theorem row5 : 5 < Try.prog.types.size := of_decide_eq_true (by kernel_rfl)

theorem read26 : Try.prog.readableRec 26 = true := by kernel_rfl
theorem row26 : 26 < Try.prog.types.size := of_decide_eq_true (by kernel_rfl)
end Go.Proofs.Ytecpkjhfbmchgaa
