/- Regs of package regs, where slots must be moved. -/
import Derived.Test.YtgalekifgnecjaaGreatY8
import Derived.Test.YtgalekifgnecjaaGreatM5
import Derived.Deep.RegionHeld3
import Derived.BigQuiet
namespace Go.Proofs.YtgalekifgnecjaaGreat
open Go.RowKit Go.Shelf Go.Sort
attribute [local go_sem] Oper.semAt_some
attribute [local irreducible] wpStill
theorem OwnLL.kp {w W : World} {base ba : Nat} {v : Value} {L : List (List Int)} (h : OwnLL w base v L) (hg : ba < base) (hk : KpA w ba W) : OwnLL W base v L := by
  obtain ⟨xs, h1, h2, h3⟩ := h
  refine ⟨xs, own_later h1 (fun b e hl => hk.block b hl (fun e2 => ?_)), h2, fun i a b => own_later (h3 i a b) (fun c e hl => hk.block c hl (fun e2 => ?_))⟩
  · have := own_ge h1 b e; omega
  · have := own_ge (h3 i a b) c e; omega
theorem ml_early {w5 w1 : World} {ba : Nat} {va : Option Addr} {L : List (List Int)} (h : RdLL w5 va L) (hb : Below w5.heap.size w5 w1) (hba : w5.heap.size ≤ ba) : ∀ W, KpA w1 ba W → RdLL W va L :=
  fun _ hk => h.below (hb.trans (hk.below hb.size hba))
theorem ml_late {w1 : World} {base ba n c : Nat} {va : Option Addr} {L : List (List Int)} (h : OwnLL w1 base (.slice va n c) L) (hg : ba < base) : ∀ W, KpA w1 ba W → RdLL W va L := by
  intro W hk
  obtain ⟨a, m, e, hr⟩ := (h.kp hg hk).rd
  injection e with e1
  rw [e1]
  exact hr
theorem OwnI.rdR {w : World} {base n c : Nat} {a : Option Addr} {l : List Int} (h : OwnI w base (.slice a n c) l) : RdI w a l := (own_slice h).2.2.1
theorem wtrM_of {w w20 w1 : World} {r : WtrN} (mu : UnM w r.u r.ca r.cc r.ga r.gc) (hw : Below w.heap.size w w1) (hle : w.heap.size ≤ r.ba) (hh : RdI w20 r.ha r.h) (h20 : Below w20.heap.size w20 w1) (hle2 : w20.heap.size ≤ r.ba)
    (ml : ∀ W, KpA w1 r.ba W → RdLL W r.va (liveL r.u)) : WtrM w1 r :=
  ⟨fun _ hk => mu.below (hw.trans (hk.below hw.size hle)), ml, fun _ hk => hh.below (h20.trans (hk.below h20.size hle2))⟩
theorem run_store_fnW {P : Program} (w : World) (a : Addr) (m : Mode) (f : Fn) (ts cs : Array Value) : (store a (.func f ts cs) m).run P w = stored P w a (.func f ts cs) m := run_store P w a _ m rfl
/-- The writer's box as it is made. -/
abbrev oW0 (r : WtrN) : Obj := .cells #[.string r.u.cls, .string r.u.name, .int .i64 r.u.args, .int .i64 r.u.slots, .int .i64 r.u.frame, .slice r.ca r.u.code.length r.cc, .slice r.ga r.u.guards.length r.gc, .slice r.va (liveL r.u).length r.vc,
  .slice r.ha r.h.length r.hc, .int .i64 r.k, .string ⟨#[]⟩, .string ⟨#[]⟩, .int .i64 0, .int .i64 0, .int .i64 0, .slice none 0 0, .slice none 0 0, .slice (some ⟨r.ba, 0, none⟩) r.u.code.length r.u.code.length] 100
/-- The writer has been made. -/
structure R21 (w : World) (r : WtrN) (w1 wy : World) : Prop where
  hi : RgI w r.u r.ca r.cc r.ga r.gc w1
  hm : WtrM w1 r
  hz : BI w1 r.ba (List.replicate r.u.code.length 0)
  lt : w.heap.size + 3 ≤ r.ba ∧ r.ba < r.bw
  sz : w1.heap.size = r.bw
  hx : wy.heap[r.bw]? = some (oW0 r)
  hb : Below w1.heap.size w1 wy
/-- Seven cells of a row written. -/
theorem set7at {w : World} {g : Nat} {x0 x1 x2 x3 x4 x5 x6 x7 x8 x9 x10 x11 x12 x13 x14 x15 x16 x17 : Value} {T : TypeId} (h : w.heap[g]? = some (.cells #[x0, x1, x2, x3, x4, x5, x6, x7, x8, x9, x10, x11, x12, x13, x14, x15, x16, x17] T (0, 0))) (y0 y1 y2 y3 y4 y5 y6 : Value) :
    (((((((w.setCell ⟨g, 10, none⟩ y0).setCell ⟨g, 11, none⟩ y1).setCell ⟨g, 12, none⟩ y2).setCell ⟨g, 13, none⟩ y3).setCell ⟨g, 14, none⟩ y4).setCell ⟨g, 15, none⟩ y5).setCell ⟨g, 16, none⟩ y6).heap[g]? = some (.cells #[x0, x1, x2, x3, x4, x5, x6, x7, x8, x9, y0, y1, y2, y3, y4, y5, y6, x17] T (0, 0)) := by
  have h0 : (w.setCell ⟨g, 10, none⟩ y0).heap[g]? = some (.cells #[x0, x1, x2, x3, x4, x5, x6, x7, x8, x9, y0, x11, x12, x13, x14, x15, x16, x17] T (0, 0)) := heap_setCell_same _ _ 10 _ _ _ h
  clear h
  generalize w.setCell ⟨g, 10, none⟩ y0 = w at h0 ⊢
  have h1 : (w.setCell ⟨g, 11, none⟩ y1).heap[g]? = some (.cells #[x0, x1, x2, x3, x4, x5, x6, x7, x8, x9, y0, y1, x12, x13, x14, x15, x16, x17] T (0, 0)) := heap_setCell_same _ _ 11 _ _ _ h0
  clear h0
  generalize w.setCell ⟨g, 11, none⟩ y1 = w at h1 ⊢
  have h2 : (w.setCell ⟨g, 12, none⟩ y2).heap[g]? = some (.cells #[x0, x1, x2, x3, x4, x5, x6, x7, x8, x9, y0, y1, y2, x13, x14, x15, x16, x17] T (0, 0)) := heap_setCell_same _ _ 12 _ _ _ h1
  clear h1
  generalize w.setCell ⟨g, 12, none⟩ y2 = w at h2 ⊢
  have h3 : (w.setCell ⟨g, 13, none⟩ y3).heap[g]? = some (.cells #[x0, x1, x2, x3, x4, x5, x6, x7, x8, x9, y0, y1, y2, y3, x14, x15, x16, x17] T (0, 0)) := heap_setCell_same _ _ 13 _ _ _ h2
  clear h2
  generalize w.setCell ⟨g, 13, none⟩ y3 = w at h3 ⊢
  have h4 : (w.setCell ⟨g, 14, none⟩ y4).heap[g]? = some (.cells #[x0, x1, x2, x3, x4, x5, x6, x7, x8, x9, y0, y1, y2, y3, y4, x15, x16, x17] T (0, 0)) := heap_setCell_same _ _ 14 _ _ _ h3
  clear h3
  generalize w.setCell ⟨g, 14, none⟩ y4 = w at h4 ⊢
  have h5 : (w.setCell ⟨g, 15, none⟩ y5).heap[g]? = some (.cells #[x0, x1, x2, x3, x4, x5, x6, x7, x8, x9, y0, y1, y2, y3, y4, y5, x16, x17] T (0, 0)) := heap_setCell_same _ _ 15 _ _ _ h4
  clear h4
  generalize w.setCell ⟨g, 15, none⟩ y5 = w at h5 ⊢
  exact heap_setCell_same _ _ 16 _ _ _ h5
theorem set7at_other {w : World} {g k : Nat} (hn : k ≠ g) (y0 y1 y2 y3 y4 y5 y6 : Value) :
    (((((((w.setCell ⟨g, 10, none⟩ y0).setCell ⟨g, 11, none⟩ y1).setCell ⟨g, 12, none⟩ y2).setCell ⟨g, 13, none⟩ y3).setCell ⟨g, 14, none⟩ y4).setCell ⟨g, 15, none⟩ y5).setCell ⟨g, 16, none⟩ y6).heap[k]? = w.heap[k]? :=
  (heap_setCell_other _ _ _ _ hn).trans ((heap_setCell_other _ _ _ _ hn).trans ((heap_setCell_other _ _ _ _ hn).trans ((heap_setCell_other _ _ _ _ hn).trans ((heap_setCell_other _ _ _ _ hn).trans ((heap_setCell_other _ _ _ _ hn).trans (heap_setCell_other _ _ _ _ hn))))))
/-- The writer begins. -/
theorem R21.wri {w : World} {r : WtrN} {w1 wy : World} (h : R21 w r w1 wy) : WrI w1 r ⟨[], List.replicate r.u.code.length 0⟩ (.slice none 0 0) (.slice none 0 0)
    (((((((wy.setCell ⟨r.bw, 10, none⟩ (.string r.u.cls)).setCell ⟨r.bw, 11, none⟩ (.string r.u.name)).setCell ⟨r.bw, 12, none⟩ (.int .i64 r.u.args)).setCell ⟨r.bw, 13, none⟩ (.int .i64 r.k)).setCell ⟨r.bw, 14, none⟩ (.int .i64 r.cells)).setCell ⟨r.bw, 15, none⟩ (.slice none 0 0)).setCell ⟨r.bw, 16, none⟩ (.slice none 0 0)) := by
  have hs := h.sz
  have hl := h.lt
  have hk : KpA w1 r.ba wy := (KpA.refl w1 r.ba).step h.hb
  have hc : ∀ {W : World} (o : Nat) (v : Value), KpA w1 r.ba W → KpA w1 r.ba (W.setCell ⟨r.bw, o, none⟩ v) := fun o v hk => hk.setCell (p := ⟨r.bw, o, none⟩) (.inl (by show _ ≤ r.bw; omega)) v
  refine ⟨hc _ _ (hc _ _ (hc _ _ (hc _ _ (hc _ _ (hc _ _ (hc _ _ hk)))))), set7at h.hx _ _ _ _ _ _ _, World.ownsRow_nil _ _ _ _, ?_, hl.2, hs⟩
  exact (h.hz.below h.hb).keep (set7at_other (by omega) _ _ _ _ _ _ _)
theorem RgI.kp {w : World} {u : UntN} {ca : Option Addr} {cc : Nat} {ga : Option Addr} {gc ba : Nat} {w1 W : World} (h : RgI w u ca cc ga gc w1) (hk : KpA w1 ba W) (hl : w.heap.size + 3 ≤ ba) : RgI w u ca cc ga gc W :=
  ⟨h.hb.trans (hk.below h.hb.size (by omega)), (hk.block _ (lt_of_heap h.hu) (by omega)).trans h.hu, (hk.block _ (lt_of_heap h.hv) (by omega)).trans h.hv, (hk.block _ (lt_of_heap h.hh) (by omega)).trans h.hh⟩

theorem RdI.ownW {w w' : World} {a : Option Addr} {l : List Int} {row : Option Nat} (h : RdI w a l) (hg : w.grownBy w' row) (hr : ∀ r, row = some r → ∃ o : Obj, w.heap[r]? = some o ∧ o.isCells = false) : RdI w' a l := by
  intro i hi
  obtain ⟨b, off, ha, hlt, hc⟩ := h i hi
  refine ⟨b, off, ha, Nat.lt_of_lt_of_le hlt hg.size, (World.cell?_of_block (hg.block b hlt (fun e => ?_))).trans hc⟩
  obtain ⟨o, ho, hn⟩ := hr b e.symm
  unfold World.cell? at hc
  rw [ho] at hc
  cases o <;> simp_all [Obj.isCells]
/-- What Regs returns where slots must be moved. -/
def RegMoved (u : UntN) (k : Nat) (w : World) (e : Ending) (w' : World) : Prop :=
  Below w.heap.size w w' ∧ ∃ (xa : Option Addr) (xc : Nat) (ya : Option Addr) (yc : Nat) (ha : Option Addr) (hc : Nat) (ta : Option Addr) (tc : Nat), e = .returned (.tuple #[vU (regU u k (wriL u k)) xa xc ya yc, .agg #[.slice ha (houL u k).out.length hc, .slice ta (wriL u k).ats.length tc], .int .i64 0]) ∧
    UnM w' (regU u k (wriL u k)) xa xc ya yc ∧ RdI w' ha (houL u k).out ∧ RdI w' ta (wriL u k).ats
theorem regs_resM {tmps : Array Value} {w : World} {g1 g2 : Nat} {c1 c2 : Array Value} {x : Value} (h4 : tmps.getD 4 undef = .pointer (some ⟨g1, 0, none⟩)) (h5 : tmps.getD 5 undef = .pointer (some ⟨g2, 0, none⟩)) (h6 : tmps.getD 6 undef = x)
    (H1 : w.heap[g1]? = some (.cells c1 25 (0, 0))) (s1 : c1.size = 7) (H2 : w.heap[g2]? = some (.cells c2 30 (0, 0))) (s2 : c2.size = 2) : (results Tryz.f13 tmps).run Tryz.prog w = .ok (.tuple #[.agg c1, .agg c2, x]) w := by
  have e1 := run_loadVar_row (P := Tryz.prog) w g1 25 25 c1 (0, 0) _ H1 Tryz.underlying25 rfl (by rw [size25, s1])
  have e2 := run_loadVar_row (P := Tryz.prog) w g2 30 30 c2 (0, 0) _ H2 Tryz.underlying30 rfl (by rw [size30, s2])
  have p4 : tmps[4]?.getD undef = .pointer (some ⟨g1, 0, none⟩) := by simpa using h4
  have p5 : tmps[5]?.getD undef = .pointer (some ⟨g2, 0, none⟩) := by simpa using h5
  have p6 : tmps[6]?.getD undef = x := by simpa using h6
  simp [results, Tryz.results13, p4, p5, p6, asAddr, e1, e2]
/-- What Regs returns at its end. -/
theorem regs_fin {w w1 W0 w5 : World} {u : UntN} {k : Nat} {ca : Option Addr} {cc : Nat} {ga : Option Addr} {gc : Nat} {va : Option Addr} {vc : Nat} {H : HouN} {X : WriN} {bh oh hc ba bw g cap yc D : Nat} {ya : Option Addr} {tmps : Array Value}
    (h4 : tmps.getD 4 undef = .pointer (some ⟨w.heap.size + 1, 0, none⟩)) (h5 : tmps.getD 5 undef = .pointer (some ⟨w.heap.size + 1 + 1, 0, none⟩)) (h6 : tmps.getD 6 undef = .int .i64 0)
    (hR : RgI w u ca cc ga gc w5) (hF : FnI w1 W0 ⟨u, ca, cc, ga, gc, va, vc, H.out, some ⟨bh, oh, none⟩, hc, k, H.cells, ba, bw⟩ X.ats g X.code.length cap (X.code.map (movI X.ats)) (.slice ya u.guards.length yc) w5)
    (hO : OwnX encG 90 w5 (bw + 1) (.slice ya u.guards.length yc) (u.guards.map (grdTo u X.ats X.code.length))) (hD : w5.heap[D]? = some (.deferred (some []))) (hDn : w.heap.size + 1 + 1 < D) (hba : w.heap.size + 3 ≤ ba) (hbh : w.heap.size + 3 ≤ bh)
    (hh : RdI w5 (some ⟨bh, oh, none⟩) H.out) (hwl : wriL u k = X) (hHL : houL u k = H) (hl : X.ats.length = u.code.length) (hcp : X.code.length ≤ cap) (hyc : u.guards.length ≤ yc) :
    bodyPostM Fence.wide 20 Tryz.prog Tryz.f13 (RegMoved u k w) .ret ⟨tmps, [markD D]⟩ ((((((((((w5.setCell ⟨w.heap.size + 1, 0, none⟩ (.string u.cls)).setCell ⟨w.heap.size + 1, 1, none⟩ (.string u.name)).setCell ⟨w.heap.size + 1, 2, none⟩ (.int .i64 u.args)).setCell ⟨w.heap.size + 1, 3, none⟩ (.int .i64 k)).setCell ⟨w.heap.size + 1, 4, none⟩ (.int .i64 H.cells)).setCell ⟨w.heap.size + 1, 5, none⟩ (.slice (some ⟨g, 0, none⟩) X.code.length cap)).setCell ⟨w.heap.size + 1, 6, none⟩ (.slice ya u.guards.length yc)).setCell ⟨w.heap.size + 1 + 1, 0, none⟩ (.slice (some ⟨bh, oh, none⟩) H.out.length hc)).setCell ⟨w.heap.size + 1 + 1, 1, none⟩ (.slice (some ⟨ba, 0, none⟩) u.code.length u.code.length)).drew) := by
  obtain ⟨WF, hWF⟩ : ∃ WF, WF = ((((((((((w5.setCell ⟨w.heap.size + 1, 0, none⟩ (.string u.cls)).setCell ⟨w.heap.size + 1, 1, none⟩ (.string u.name)).setCell ⟨w.heap.size + 1, 2, none⟩ (.int .i64 u.args)).setCell ⟨w.heap.size + 1, 3, none⟩ (.int .i64 k)).setCell ⟨w.heap.size + 1, 4, none⟩ (.int .i64 H.cells)).setCell ⟨w.heap.size + 1, 5, none⟩ (.slice (some ⟨g, 0, none⟩) X.code.length cap)).setCell ⟨w.heap.size + 1, 6, none⟩ (.slice ya u.guards.length yc)).setCell ⟨w.heap.size + 1 + 1, 0, none⟩ (.slice (some ⟨bh, oh, none⟩) H.out.length hc)).setCell ⟨w.heap.size + 1 + 1, 1, none⟩ (.slice (some ⟨ba, 0, none⟩) u.code.length u.code.length)).drew) := ⟨_, rfl⟩
  obtain ⟨b1, x1, x2, x3⟩ := regs_put hR _ _ _ _ _ _ _ _ _ WF hWF
  rw [← hWF]
  clear hWF
  have hgD : ∀ (b : Nat) (c : Array Value) (T : TypeId) (m : Nat × Nat), w5.heap[b]? = some (.cells c T m) → b ≠ D := fun b c T m e e2 => by
    rw [e2, hD] at e
    cases e
  have hlt := hF.lt
  dsimp only at hlt
  have hke : ∀ b, b ≠ w.heap.size + 1 → b ≠ w.heap.size + 1 + 1 → b ≠ D → (WF.putObj D (.deferred none)).heap[b]? = w5.heap[b]? := fun b h1 h2 h3 => (World.putObj_heap_other h3).trans (x3 b h1 h2)
  have hsz : w5.heap.size ≤ (WF.putObj D (.deferred none)).heap.size := by
    have h1 := (x3 (w5.heap.size - 1))
    by_cases e : w5.heap.size - 1 < WF.heap.size
    · simp [World.putObj]; omega
    · have hl1 := lt_of_heap hR.hh
      have hDl : D < w5.heap.size := (Array.getElem?_eq_some_iff.1 hD).1
      have h2 := h1 (by omega) (by omega)
      rw [Array.getElem?_eq_none (by omega), Array.getElem?_eq_getElem (by omega)] at h2
      cases h2
  refine leaves_mark1 ((x3 D (by omega) (by omega)).trans hD) ?_
  refine ⟨.tuple #[.agg #[.string u.cls, .string u.name, .int .i64 u.args, .int .i64 k, .int .i64 H.cells, .slice (some ⟨g, 0, none⟩) X.code.length cap, .slice ya u.guards.length yc], .agg #[.slice (some ⟨bh, oh, none⟩) H.out.length hc, .slice (some ⟨ba, 0, none⟩) u.code.length u.code.length], .int .i64 0], ?_, ?_⟩
  · exact regs_resM (g1 := w.heap.size + 1) (g2 := w.heap.size + 1 + 1) h4 h5 h6 ((World.putObj_heap_other (by omega)).trans x1) rfl ((World.putObj_heap_other (by omega)).trans x2) rfl
  · refine ⟨b1.trans ⟨rfl, rfl, rfl, by simp [World.putObj], fun q hq => World.putObj_heap_other (by omega)⟩, some ⟨g, 0, none⟩, cap, ya, yc, some ⟨bh, oh, none⟩, hc, some ⟨ba, 0, none⟩, u.code.length, ?_, ⟨?_, ?_, ?_, ?_⟩, ?_, ?_⟩
    · rw [hwl, hHL, hl]
      simp only [regU, hHL, vU, List.length_map]
    · rw [hwl]
      obtain ⟨cur, hc1, _⟩ := hF.hc
      exact (hF.hc.keep (hke g (by omega) (by omega) (hgD _ _ _ _ hc1))).rd
    · rw [hwl]
      have hge := own_ge hO
      have ho := own_later hO (fun b hb hl => hke b (by have := hge b hb; omega) (by have := hge b hb; omega) (by
        rcases hO.2 with ⟨e1, _⟩ | ⟨q, cc9, cur, e1, _, hh9, _⟩
        · rw [e1] at hb; cases hb
        · rw [e1] at hb
          cases hb
          exact hgD _ _ _ _ hh9))
      obtain ⟨a9, c9, e9, hr9, _⟩ := OwnX.rdB ho
      injection e9 with e91
      rw [e91]
      exact rdD_iff.1 hr9
    · rw [hwl]
      show (X.code.map _).length ≤ cap
      rw [List.length_map]
      exact hcp
    · show (u.guards.map _).length ≤ yc
      rw [List.length_map]
      exact hyc
    · rw [hHL]
      intro i hi
      obtain ⟨b9, o9, e9, hl9, hc9⟩ := hh i hi
      cases e9
      have hne : bh ≠ D := fun e => by
        rw [e] at hc9
        unfold World.cell? at hc9
        rw [show (⟨D, oh + i, none⟩ : Addr).block = D from rfl, hD] at hc9
        simp at hc9
      exact ⟨bh, oh, rfl, by omega, (World.cell?_of_block (hke bh (by omega) (by omega) hne)).trans hc9⟩
    · rw [hwl]
      obtain ⟨cur, hc1, _⟩ := hF.ha
      exact (hF.ha.keep (hke ba (by show ba ≠ _; omega) (by show ba ≠ _; omega) (hgD _ _ _ _ hc1))).rd
/-- The loop over the groups. -/
structure RgL (w1 : World) (r : WtrN) (bE : Nat) (cE : Array Value) (pre : List GrX) (W : World) : Prop where
  ex : ∃ vc, WrI w1 r (wriTo r.u r.k (pre.map GrX.g)) vc (.slice none 0 0) W
  h1 : W.heap[bE]? = some (.cells cE 102 (0, 0))
set_option maxRecDepth 100000 in
set_option maxHeartbeats 60000000 in
theorem regs_wri (u : UntN) (k : Nat) (ca : Option Addr) (cc : Nat) (ga : Option Addr) (gc : Nat) (w : World) (hm : UnM w u ca cc ga gc) (hw : writB u = true) (hk1 : 1 ≤ k) (hk2 : k ≤ 200) (hks : (k : Int) < u.slots) (hkl : leastN u ≤ k) (hc6 : (wriL u k).code.length ≤ 600) (hcl : (houL u k).cells ≤ 200) :
    Calls Tryz.prog 13 #[vU u ca cc ga gc, .int .i64 k] w (RegMoved u k w) := by
  have hargs := writ_args hw
  have hn6 := writ_len hw
  have hlg : u.guards.length ≤ 40 := (plain_leads (writ_plain hw)).2.2.1
  have HW := hid (fun w' (hb : Below w.heap.size w w') => writable_any u ca cc ga gc w' (hm.below hb) (by omega) (by omega))
  have HLE := hid (fun w' (hb : Below w.heap.size w w') => least_any u ca cc ga gc w' (hm.below hb) hn6)
  have HHO := hid (fun w' (hb : Below w.heap.size w w') => housed_any u k hw hkl hk2 ca cc ga gc w' (hm.below hb))
  have HFO := hid (fun w' (hb : Below w.heap.size w w') => flowOf_any u ca cc ga gc w' (hm.below hb) hw)
  have HGR := hid (fun w' (hb : Below w.heap.size w w') => groups_any u ca cc ga gc w' (hm.below hb) (by omega))
  have HI := hid (regs_first w u ca cc ga gc)
  have HWI := hid (fun w => within_regs k 1 200 w)
  have HM := hid hm
  have HWR := hid hw
  have HC6 := hid hc6
  have HCL := hid hcl
  have HKL := hid hkl
  have hki : inN (k : Int) 1 200 = true := by unfold inN; simp; omega
  rw [hw] at HW
  rw [hki] at HWI
  have HOL : Hid (((houL u k).out.length : Int) = u.slots) := hid (by have := (hou_all hw (k : Int)).len; omega)
  obtain ⟨ag, hag⟩ : ∃ n : Nat, u.args = (n : Int) := ⟨u.args.toNat, by omega⟩
  have HAG := hid hag
  have hag2 : (ag : Int) ≤ u.slots := by omega
  clear hm hki hc6 hcl hag
  generalize hHL : houL u k = H at *
  obtain ⟨wa, hwa⟩ : ∃ wa, wa = ((w.alloc (oU u ca cc ga gc)).alloc oZ).alloc (oH (.slice none 0 0) (.slice none 0 0)) := ⟨_, rfl⟩
  rw [← hwa] at HI
  have hks2 : ¬ u.slots ≤ (k : Int) := by omega
  obtain ⟨L, hL⟩ : ∃ L, L = leastN u := ⟨_, rfl⟩
  rw [← hL] at HLE hkl
  clear hL
  have hkl2 : ¬ (k : Int) < (L : Int) := by omega
  refine (callsIn_wide (n := 20)).1 (callsIn_of_wpAt Tryz.func13 rfl ?_)
  simp only [Tryz.ntmps13, List.size_toArray, List.length_cons, List.length_nil, Nat.reduceAdd, Nat.reduceSub, Array.replicate_succ, Array.replicate_zero, List.push_toArray, List.append_toArray, List.nil_append, List.cons_append]
  refine WpAt.seq (WpAt.of (wpIn_wide.2 ?_))
  go_wp2
  rw [← hwa]
  clear hwa
  obtain ⟨k0, k1, k2, k3, k4, k5, k6⟩ := box7 HI.out.hu
  refine WpAt.seq (WpAt.of (wpIn_wide.2 ?_))
  go_wp2_with (first
    | (go_at_call 42; (with_reducible refine (HW.out _ HI.out.hb).mono ?_); rintro e w2 ⟨rfl, hb⟩; have HI2 := hid (HI.out.below hb); clear hb)
    | (go_at_call 43; (with_reducible refine (HWI.out _).mono ?_); rintro e w3 ⟨rfl, rfl⟩))
  clear k0 k1 k2 k3 k4 k5 k6
  obtain ⟨k0, k1, k2, k3, k4, k5, k6⟩ := box7 HI2.out.hu
  refine WpAt.seq (WpAt.of (wpIn_wide.2 ?_))
  go_wp2_with fail
  refine WpAt.seq (WpAt.of (wpIn_wide.2 ?_))
  go_wp2_with (first
    | (go_at_call 46; (with_reducible refine (HLE.out _ HI2.out.hb).mono ?_); rintro e w4 ⟨rfl, hb⟩; have HI4 := hid (HI2.out.below hb); clear hb))
  clear k0 k1 k2 k3 k4 k5 k6
  obtain ⟨k0, k1, k2, k3, k4, k5, k6⟩ := box7 HI4.out.hu
  refine WpAt.seq (WpAt.of (wpIn_wide.2 ?_))
  go_wp2_with (first
    | (go_at_call 47; (with_reducible refine (HHO.out _ HI4.out.hb).mono ?_); rintro e w5 ⟨hb, vh, rfl, hoh⟩; have HI5 := hid (HI4.out.below hb); obtain ⟨ha, hc, rfl, _⟩ := hoh.rd; obtain ⟨bh, oh, rfl, _, _⟩ := (own_slice hoh).2.2.1 0 (by have := HOL.out; omega); have HO5 := hid hoh; have HBH : Hid (w.heap.size + 3 ≤ bh) := hid (by have h1 := own_ge hoh bh rfl; have h2 := lt_of_heap HI4.out.hh; omega); clear hb hoh))
  clear k0 k1 k2 k3 k4 k5 k6
  obtain ⟨k0, k1, k2, k3, k4, k5, k6⟩ := box7 HI5.out.hu
  refine WpAt.seq (WpAt.of (wpIn_wide.2 ?_))
  generalize hKK : WpAt Tryz.prog 13 20 _ _ = KK
  have HS : Hid (∀ W, Below w5.heap.size w5 W → W.cell? ⟨w.heap.size, 0, none⟩ = some (.string u.cls) ∧ W.cell? ⟨w.heap.size, 1, none⟩ = some (.string u.name) ∧ W.cell? ⟨w.heap.size, 2, none⟩ = some (.int .i64 u.args) ∧ W.cell? ⟨w.heap.size, 3, none⟩ = some (.int .i64 u.slots) ∧ W.cell? ⟨w.heap.size, 4, none⟩ = some (.int .i64 u.frame) ∧ W.cell? ⟨w.heap.size, 5, none⟩ = some (.slice ca u.code.length cc) ∧ W.cell? ⟨w.heap.size, 6, none⟩ = some (.slice ga u.guards.length gc)) :=
    hid (fun W hb => ⟨cell_later hb k0, cell_later hb k1, cell_later hb k2, cell_later hb k3, cell_later hb k4, cell_later hb k5, cell_later hb k6⟩)
  have hcc := HM.out.lc
  have hmk := fun w => run_make_row' (P := Tryz.prog) 28 3 (.int .i64 0) 8 Tryz.underlying28 info3 rfl .i64 .i64 u.code.length (by omega) (by omega) w
  have HMD := hid (fun w => bi_made w u.code.length)
  obtain ⟨M, hM⟩ : ∃ M, M = madeCells #[.int .i64 0] u.code.length := ⟨_, rfl⟩
  rw [← hM] at hmk HMD
  clear hM hcc
  go_cut [13] from 68 to 153 (fun s13 wy => ∃ (va : Option Addr) (vc ba bw : Nat) (w1 : World), s13 = .pointer (some ⟨bw, 0, none⟩) ∧ Hid (R21 w ⟨u, ca, cc, ga, gc, va, vc, H.out, some ⟨bh, oh, none⟩, hc, k, H.cells, ba, bw⟩ w1 wy))
  case first =>
    go_region_held3 (fun W => W.cell? ⟨w.heap.size, 0, none⟩ = some (.string u.cls) ∧ W.cell? ⟨w.heap.size, 1, none⟩ = some (.string u.name) ∧ W.cell? ⟨w.heap.size, 2, none⟩ = some (.int .i64 u.args) ∧ W.cell? ⟨w.heap.size, 3, none⟩ = some (.int .i64 u.slots) ∧ W.cell? ⟨w.heap.size, 4, none⟩ = some (.int .i64 u.frame) ∧ W.cell? ⟨w.heap.size, 5, none⟩ = some (.slice ca u.code.length cc) ∧ W.cell? ⟨w.heap.size, 6, none⟩ = some (.slice ga u.guards.length gc))
      (first | exact HS.out _ (bdrew _) | exact HS.out _ hb6 | exact HS.out _ ((bnew _ _).step (bdrew _)) | exact HS.out _ ((bdrew _).step (bnew _ _)) | exact HS.out _ (hb6.step (bnew _ _)) | exact HS.out _ ((hb6.step (bnew _ _)).step (bnew _ _)))
      ((go_at_call 48; (first
        | ((with_reducible refine (HFO.out _ (HI5.out.hb.step (bdrew _))).mono ?_); rintro e w6 ⟨hb, v6, rfl, ho⟩; obtain ⟨va, vc, rfl, hrl⟩ := ho.rd; have hb6 := (bdrew w5).step hb; have HBC := hid hb; have HO6 := hid ho; have HL6 := hid hrl; clear hb ho hrl)
        | ((with_reducible refine (HFO.out _ (HI5.out.hb.step ((bnew _ _).step (bdrew _)))).mono ?_); rintro e w6 ⟨hb, v6, rfl, ho⟩; obtain ⟨va, vc, rfl, hrl⟩ := ho.rd; have hb6 := ((bnew w5 _).step (bdrew _)).step hb; have HBC := hid hb; have HO6 := hid ho; have HL6 := hid hrl; clear hb ho hrl))))
    all_goals
      go_wp2_with fail
      go_meet
      have hz5 := lt_of_heap HI5.out.hh
      have hz6 := hb6.size
      first
        | exact ⟨va, vc, w6.heap.size, w6.heap.size + 1, w6.alloc (.cells M 3), by simp, hid ⟨(HI5.out.below hb6).below (bnew _ _), wtrM_of HM.out ((HI5.out.hb.step hb6).step (bnew _ _)) (by show _ ≤ w6.heap.size; omega) HO5.out.rdR (hb6.step (bnew _ _)) (by show _ ≤ w6.heap.size; omega) (ml_early HL6.out (bnew _ _) (Nat.le_refl _)), HMD.out w6, ⟨by show _ ≤ w6.heap.size; omega, by show w6.heap.size < w6.heap.size + 1; omega⟩, by simp, heapn _ _ _ (by simp), bnew _ _⟩⟩
        | exact ⟨va, vc, w5.heap.size, w6.heap.size, w6, rfl, hid ⟨HI5.out.below hb6, wtrM_of HM.out (HI5.out.hb.step hb6) (by show _ ≤ w5.heap.size; omega) HO5.out.rdR hb6 (Nat.le_refl _) (ml_late HO6.out (by simp)), (HMD.out w5).below ((bdrew _).step HBC.out), ⟨by show _ ≤ w5.heap.size; omega, by show w5.heap.size < w6.heap.size; have := HBC.out.size; simp at this; omega⟩, rfl, heapn _ _ _ rfl, bnew _ _⟩⟩
  case rest =>
    obtain ⟨va, vc, ba, bw, w1, rfl, HR⟩ := hcut
    rw [← hKK]
    clear hKK KK k0 k1 k2 k3 k4 k5 k6
    have hxb := HR.out.hx
    dsimp only at hxb
    have g10 := boxF 10 hxb; have g11 := boxF 11 hxb; have g12 := boxF 12 hxb; have g13 := boxF 13 hxb; have g14 := boxF 14 hxb; have g15 := boxF 15 hxb; have g16 := boxF 16 hxb
    have c10 := box18 hxb (k := 10) rfl; have c11 := box18 hxb (k := 11) rfl; have c12 := box18 hxb (k := 12) rfl; have c13 := box18 hxb (k := 13) rfl; have c14 := box18 hxb (k := 14) rfl; have c15 := box18 hxb (k := 15) rfl; have c16 := box18 hxb (k := 16) rfl
    clear hxb
    obtain ⟨k0, k1, k2, k3, k4, k5, k6⟩ := box7 (HR.out.hi.below HR.out.hb).hu
    have HW0 := hid HR.out.wri
    dsimp only at HW0
    refine WpAt.seq (WpAt.of (wpIn_wide.2 ?_))
    go_wp2
    clear g10 g11 g12 g13 g14 g15 g16 c10 c11 c12 c13 c14 c15 c16 k0 k1 k2 k3 k4 k5 k6
    generalize ((((((wc.setCell ⟨bw, 10, none⟩ (.string u.cls)).setCell ⟨bw, 11, none⟩ (.string u.name)).setCell ⟨bw, 12, none⟩ (.int .i64 u.args)).setCell ⟨bw, 13, none⟩ (.int .i64 k)).setCell ⟨bw, 14, none⟩ (.int .i64 H.cells)).setCell ⟨bw, 15, none⟩ (.slice none 0 0)).setCell ⟨bw, 16, none⟩ (.slice none 0 0) = W0 at *
    have HRK := hid (fun W (hk : KpA w1 ba W) => HR.out.hi.kp hk HR.out.lt.1)
    have HMW := hid HR.out.hm
    have HMH := hid HR.out.hm.mh
    have HEM := hid (fun x vx i W (h : WrI w1 ⟨u, ca, cc, ga, gc, va, vc, H.out, some ⟨bh, oh, none⟩, hc, k, H.cells, ba, bw⟩ x vx (.slice none 0 0) W) hl => emit_any w1 ⟨u, ca, cc, ga, gc, va, vc, H.out, some ⟨bh, oh, none⟩, hc, k, H.cells, ba, bw⟩ x vx (.slice none 0 0) i W h hl)
    dsimp only at HEM HRK HMH
    obtain ⟨k0, k1, k2, k3, k4, k5, k6⟩ := box7 (HRK.out W0 HW0.out.hb).hu
    rw [HAG.out] at k2
    refine WpAt.seq (WpAt.of (wpIn_wide.2 ?_))
    generalize hKK : WpAt Tryz.prog 13 20 _ _ = KK
    go_upto_region 24 with fail
    clear k0 k1 k2 k3 k4 k5 k6
    go_loopg [104] ag (fun gh s104 wr => ∃ (j : Nat) (vx : Value), j ≤ ag ∧ gh = ag - j ∧ s104 = .int .i64 j ∧ Hid (WrI w1 ⟨u, ca, cc, ga, gc, va, vc, H.out, some ⟨bh, oh, none⟩, hc, k, H.cells, ba, bw⟩ ⟨argLoads H.out j, List.replicate u.code.length 0⟩ vx (.slice none 0 0) wr))
    case atStart => exact ⟨0, .slice none 0 0, Nat.zero_le _, rfl, rfl, HW0⟩
    case round =>
      obtain ⟨j, vx, hj, rfl, rfl, HWJ⟩ := hrel
      by_cases hjn : j < ag
      · have nj : (j : Int) < (ag : Int) := by omega
        have hjl : j < H.out.length := by have := HOL.out; omega
        obtain ⟨b', o', e', _, hc0⟩ := (HMH.out _ HWJ.out.hb) j hjl
        cases e'
        have HAL : Hid (argLoads H.out (j + 1) = argLoads H.out j ++ if 0 ≤ homeN H.out j then [loadI (homeN H.out j) j] else []) := hid (argLoads_succ _ _)
        rw [show homeN H.out (j : Int) = H.out[j] from homeN_at hjl] at HAL
        have hlen := argLoads_len H.out j
        generalize H.out[j] = x at *
        by_cases hx : (0 : Int) ≤ x
        · rw [if_pos hx] at HAL
          go_wp2_with (first
            | (go_at_call 49; (with_reducible refine (HEM.out _ _ ⟨33, x, j, 0⟩ _ HWJ.out (by show (argLoads H.out j).length ≤ 100000; omega)).mono ?_); rintro e w7 ⟨rfl, vx2, hwi, _, _⟩; have HW7 := hid hwi; clear hwi))
          go_roundg (ag - (j + 1))
          case measure => omega
          case rel => exact ⟨j + 1, _, by omega, rfl, by go_num, hid (by rw [HAL.out]; exact HW7.out)⟩
        · rw [if_neg hx, List.append_nil] at HAL
          go_wp2_with fail
          go_roundg (ag - (j + 1))
          case measure => omega
          case rel => exact ⟨j + 1, _, by omega, rfl, by go_num, hid (by rw [HAL.out]; exact HWJ.out)⟩
      · obtain rfl : j = ag := by omega
        have nj : ¬ (j : Int) < (j : Int) := by omega
        go_wp2
        rw [← hKK]
        clear hKK
        clear HEM
        have hmf : ∀ (fn : Fn) (first cap : Array Value) (w : World), (Instr.makeFunc fn first cap).run Tryz.prog w = .ok (.func fn first cap) w := fun _ _ _ _ => rfl
        have hsf := @run_store_fnW Tryz.prog
        refine WpAt.seq (WpAt.of (wpIn_wide.2 ?_))
        go_wp2
        clear hmf hsf
        obtain ⟨bE, hbE⟩ : ∃ b, b = wr.heap.size := ⟨_, rfl⟩
        obtain ⟨wE, hwE⟩ : ∃ wE, wE = wr.alloc (.cells #[.func (.func 50) #[.pointer (some ⟨bw, 0, none⟩)] #[]] 102) := ⟨_, rfl⟩
        have HWE : Hid (WrI w1 ⟨u, ca, cc, ga, gc, va, vc, H.out, some ⟨bh, oh, none⟩, hc, k, H.cells, ba, bw⟩ ⟨argLoads H.out j, List.replicate u.code.length 0⟩ vx (.slice none 0 0) wE) := hid (by rw [hwE]; exact HWJ.out.below (bnew _ _))
        have HXE : Hid (wE.heap[bE]? = some (.cells #[.func (.func 50) #[.pointer (some ⟨bw, 0, none⟩)] #[]] 102)) := hid (by rw [hwE, hbE]; exact heapn _ _ _ rfl)
        have HSE : Hid (wE.heap.size = bE + 1 ∧ bw < bE ∧ ba < bw ∧ w.heap.size + 3 ≤ ba) := hid ⟨by rw [hwE, hbE]; simp, by rw [hbE]; exact lt_of_heap HWJ.out.hx, HR.out.lt.2, HR.out.lt.1⟩
        have HVE : Hid (∀ b, vx.ownBlock = some b → bw < b ∧ b < bE) := hid (fun b e => ⟨by have h1 := own_ge HWJ.out.hc b e; dsimp only at h1; omega, by rw [hbE]; exact own_ltR HWJ.out.hc b e⟩)
        rw [← hbE, ← hwE]
        clear hbE hwE HWJ
        obtain ⟨k0, k1, k2, k3, k4, k5, k6⟩ := box7 (HRK.out wE HWE.out.hb).hu
        refine WpAt.seq (WpAt.seq (WpAt.of (wpIn_wide.2 ?_)))
        go_wp2_with (first
          | (go_at_call 51; (with_reducible refine (HGR.out _ (HRK.out wE HWE.out.hb).hb).mono ?_); rintro e w4 ⟨hb, gu, gf, gb, rfl, hga⟩; have HB4 := hid hb; have HA4 := hid hga; clear hb hga))
        clear k0 k1 k2 k3 k4 k5 k6
        have HW4 := hid (HWE.out.below HB4.out)
        have HX4 := hid (keepBox HB4.out HXE.out)
        have hse := HSE.out
        have hve := HVE.out
        have hs4 := HB4.out.size
        have hmi : ∀ b, b ≠ ba → b ≠ bw → (b < bw ∨ bE ≤ b) → MiC (fun k => k = ba) bw 15 w4 b := fun b h1 h2 h3 => HW4.out.mi h1 h2 (fun e => by have := hve b e; omega)
        have hun : UnO (MiC (fun k => k = ba) bw 15) w4 u ca cc ga gc := by
          refine ⟨HM.out.below ((HRK.out wE HWE.out.hb).hb.step HB4.out), fun h0 b o e => ?_, fun h0 b o e => ?_⟩
          · obtain ⟨b', o', e', hl, _⟩ := HM.out.rc 0 h0
            rw [e] at e'
            cases e'
            exact hmi b (by omega) (by omega) (by omega)
          · obtain ⟨b', o', e', hl, _⟩ := HM.out.rg 0 h0
            rw [e] at e'
            cases e'
            exact hmi b (by omega) (by omega) (by omega)
        have hlu := HA4.out.lu
        have hlf := HA4.out.lf
        have hlb := HA4.out.lb
        have hwf : WFC (fun k => k = ba) bw 15 w4 := HW4.out.wfc
        have hseq := groups_seq 19 (by omega) (fenc_cell (fun k => k = ba) bw 15) u (writ_len HWR.out) ca cc ga gc gu gf gb w4 HA4.out.hu HA4.out.hf HA4.out.hb hun (hmi _ (by omega) (by omega) (by omega)) (hmi _ (by omega) (by omega) (by omega)) (hmi _ (by omega) (by omega) (by omega)) hwf
        clear hun hmi hwf
        have HRR : Hid (∀ x W, WrI w1 ⟨u, ca, cc, ga, gc, va, vc, H.out, some ⟨bh, oh, none⟩, hc, k, H.cells, ba, bw⟩ x vx (.slice none 0 0) W → True) := hid (fun _ _ _ => trivial)
        clear HRR
        have HT0 : Hid (wriTo u k [] = ⟨argLoads H.out j, List.replicate u.code.length 0⟩) := hid (by show (⟨argLoads (houL u k).out u.args.toNat, List.replicate u.code.length 0⟩ : WriN) = _; rw [hHL, HAG.out]; rfl)
        generalize hA : Act.mk _ _ = A
        have HA := hid hA
        rw [← hA]
        clear hA
        refine WpAt.block (wpAt_range (α := GrX) rfl (by omega) (gf := 114) (lb := #[.pointer (some ⟨gu, 0, none⟩), .pointer (some ⟨gf, 0, none⟩)]) rfl (enters_of Tryz.func114 (by kernel_rfl) rfl) hseq KeepK.trans (keep_k (fenc_cell _ _ _)) (Below.refl _ _) (fun _ => rfl)
          (fun pre W => RgL w1 ⟨u, ca, cc, ga, gc, va, vc, H.out, some ⟨bh, oh, none⟩, hc, k, H.cells, ba, bw⟩ bE #[.func (.func 50) #[.pointer (some ⟨bw, 0, none⟩)] #[]] pre W) (fun ch pre W => False) ?hI ?h0
          (fun x a' W => ∃ bG : Nat, a' = ⟨(A.tmps.setIfInBounds 125 (vGr x)).setIfInBounds 16 (.pointer (some ⟨bG, 0, none⟩)), []⟩ ∧ W.heap[bG]? = some (.cells #[.int .i64 x.g.frm, .int .i64 x.g.til, .slice x.a x.g.reads.length x.c, .int .i64 x.g.wr] 107) ∧ RdI W x.a x.g.reads ∧ (∀ b off, x.a = some ⟨b, off, none⟩ → b < W.heap.size ∧ b ≠ ba)) ?hAx ?assign ?body ?done ?panic)
        case hI =>
          rintro pre A B row ⟨⟨vc', h1⟩, h2⟩ hg hr
          refine ⟨⟨vc', h1.kept hg (fun q e => ?_)⟩, (grown_cells hg (fun r e => (hr r e).2) h2 rfl).trans h2⟩
          have h3 := (hr q e).1
          obtain ⟨o, ho, hn⟩ := (hr q e).2
          refine ⟨by show bw < q; omega, fun e2 => ?_⟩
          rcases h1.hc.2 with ⟨e1, _⟩ | ⟨g', cap, cur, e1, _, hh, _⟩
          · rw [e1] at e2; cases e2
          · rw [e1] at e2
            cases e2
            rw [hh] at ho
            cases ho
            cases hn
        case h0 => exact ⟨⟨vx, by show WrI w1 ⟨u, ca, cc, ga, gc, va, vc, H.out, some ⟨bh, oh, none⟩, hc, k, H.cells, ba, bw⟩ (wriTo u k []) vx _ w4; rw [HT0.out]; exact HW4.out⟩, HX4.out⟩
        case hAx =>
          rintro x a' _ A B row ⟨bG, rfl, hx, hr2, hb2⟩ hg hr
          exact ⟨bG, rfl, (grown_cells hg (fun r e => (hr r e).2) hx rfl).trans hx, hr2.ownW hg (fun r e => (hr r e).2), fun b off e => ⟨Nat.lt_of_lt_of_le (hb2 b off e).1 hg.size, (hb2 b off e).2⟩⟩
        case assign =>
          intro l pre x W K hI hF hK
          have hsW := lt_of_heap hI.h1
          obtain ⟨⟨vc', h1⟩, h2⟩ := hI
          gi_wp2
          refine hK _ _ ((KeepsOthers.alloc _ _).from _) (fun hw => KeepM.of_below (fenc_cell _ _ _) hw (bnew _ _)) ⟨⟨vc', h1.below (bnew _ _)⟩, keepBox (bnew _ _) h2⟩ ⟨_, by rw [← HA.out]; rfl, heapn _ _ _ rfl, hF.1.below (bnew _ _), fun b off e => ⟨Nat.lt_of_lt_of_le (hF.2.2 b off e).1 (bnew _ _).size, (hF.2.2 b off e).2.1⟩⟩
        case body =>
          rintro l pre x a' W hI ⟨bG, rfl, hx, hr2, hb2⟩ hpre
          obtain ⟨⟨vc', h1⟩, h2⟩ := hI
          rw [← HA.out]
          have hmem : x.g ∈ groupsL u := hpre.subset (by simp)
          have hpre2 : pre.map GrX.g <+: groupsL u := by
            obtain ⟨t, ht⟩ := hpre
            refine ⟨x.g :: t, ?_⟩
            rw [← ht, List.map_append, List.append_assoc]
            rfl
          have hlen := wriTo_len HWR.out k hpre2
          have HC := hid (group_any w1 ⟨u, ca, cc, ga, gc, va, vc, H.out, some ⟨bh, oh, none⟩, hc, k, H.cells, ba, bw⟩ (wriTo u k (pre.map GrX.g)) vc' (.slice none 0 0) x W HMW.out h1 HWR.out hmem hr2 (by show H.out = (houL u k).out; rw [hHL]) HKL.out hk2 (by have := hlen.1; omega) hlen.2 (fun b off e => (hb2 b off e).2))
          have H1 := hid h1; have H2 := hid h2
          have v0 := cellO h2
          obtain ⟨q0, q1, q2, q3⟩ := box4 hx
          clear hr2 hb2 h1 h2 hx hpre hpre2 hlen hmem hseq
          simp only [List.setIfInBounds_toArray, List.set_cons_zero, List.set_cons_succ]
          gi_wp2_with (first
            | ((try refine ⟨trivial, ?_⟩); gi_at_call 50; (with_reducible refine (CallsIn.inRound l (callsIn_wide.2 HC.out)).mono ?_); rintro e w5 ⟨rfl, vc2, hwi, hst, hnb⟩; have HI5 := hid hwi; have HS5 := hid hst; have HN5 := hid hnb; clear hwi hst hnb))
          exact ⟨(H1.out.others HS5.out).from _, fun hw => H1.out.keepM HI5.out HS5.out HN5.out, ⟨vc2, by rw [List.map_append, List.map_singleton]; show WrI _ _ (wriTo u k _) _ _ _; rw [wriTo_snoc, hHL]; exact HI5.out⟩, H1.out.boxStay HS5.out H2.out (by show bE ≠ bw; omega) (by show bE ≠ ba; omega)⟩
        case panic =>
          rintro D ch pre W hD hpre hf hdef
          exact hf.elim
        case done =>
          rintro D xs W hD hS ⟨⟨vc', h1⟩, h2⟩ hdef
          have hall : WrI w1 ⟨u, ca, cc, ga, gc, va, vc, H.out, some ⟨bh, oh, none⟩, hc, k, H.cells, ba, bw⟩ (wriL u k) vc' (.slice none 0 0) W := by rw [← wriTo_all, ← hS]; exact h1
          have HFI := hid (finish_any w1 ⟨u, ca, cc, ga, gc, va, vc, H.out, some ⟨bh, oh, none⟩, hc, k, H.cells, ba, bw⟩ (wriL u k) vc' W HMW.out hall (writ_plain HWR.out) (wri_ne HWR.out k) (wri_ok k).2.1 (by have := HC6.out; omega) (wri_places HWR.out k) (fun y hy => ⟨(wri_ats k y hy).1, by have := (wri_ats k y hy).2; have := HC6.out; omega⟩))
          have HDW := hid hdef
          have HWL : Hid ((wriL u k).ats.length = u.code.length) := hid (wri_ok k).2.1
          have hc6 : (wriL u k).code.length ≤ 600 := HC6.out
          have hcl : ¬ (200 : Int) < H.cells := by have := HCL.out; omega
          clear hall h1 h2 hdef hS hseq
          dsimp only
          refine WpAt.seq (n := 20) (WpAt.of (n := 20) (wpIn_wide.2 ?_))
          go_wp2_with (first
            | (go_at_call 52; (with_reducible refine HFI.out.mono ?_); rintro e w5 ⟨rfl, g, cap, ya, yc, hf, _, hcp, hyc, hog⟩; have HF5 := hid hf; have HOG := hid hog; clear hf hog))
          have HR5 := hid (HRK.out w5 HF5.out.hb)
          have HD5 := hid (HF5.out.ot.same D _ HDW.out rfl)
          generalize hwl : wriL u k = X at *
          have hxb := HF5.out.hx
          dsimp only at hxb
          have c10 := box18 hxb (k := 10) rfl; have c11 := box18 hxb (k := 11) rfl; have c12 := box18 hxb (k := 12) rfl; have c13 := box18 hxb (k := 13) rfl; have c14 := box18 hxb (k := 14) rfl; have c15 := box18 hxb (k := 15) rfl; have c16 := box18 hxb (k := 16) rfl; have c17 := box18 hxb (k := 17) rfl
          clear hxb
          have n600 : ¬ (600 : Int) < (X.code.length : Int) := by omega
          refine WpAt.seq (n := 20) (WpAt.of (n := 20) (wpIn_wide.2 ?_))
          go_wp2_with fail
          refine WpAt.of (n := 20) (wpIn_wide.2 ?_)
          have hv := HR5.out.hv
          have hh := HR5.out.hh
          have f0 := boxF 0 hv; have f1 := boxF 1 hv; have f2 := boxF 2 hv; have f3 := boxF 3 hv; have f4 := boxF 4 hv; have f5 := boxF 5 hv; have f6 := boxF 6 hv
          have g0 := boxF 0 hh; have g1 := boxF 1 hh
          obtain ⟨y0, y1, y2, y3, y4, y5, y6⟩ := box7 hv
          obtain ⟨z0, z1, _, _⟩ := box2 hh
          clear hv hh
          have n1 : ¬ w.heap.size + 1 = bw := by omega
          have n2 : ¬ w.heap.size + 1 + 1 = bw := by omega
          have n3 : ¬ bw = w.heap.size + 1 := by omega
          have n4 : ¬ bw = w.heap.size + 1 + 1 := by omega
          go_upto_region 36 with fail
          go_region
          all_goals go_wp2
          have hDn : w.heap.size + 1 + 1 < D := by
            have := lt_of_heap HR5.out.hh
            have h1 := (HRK.out wE HWE.out.hb).hb.size
            have h2 := lt_of_heap (HRK.out wE HWE.out.hb).hh
            omega
          exact regs_fin rfl rfl rfl HR5.out HF5.out HOG.out HD5.out hDn HSE.out.2.2.2 HBH.out (HMH.out w5 HF5.out.hb) hwl hHL HWL.out hcp hyc
end Go.Proofs.YtgalekifgnecjaaGreat
