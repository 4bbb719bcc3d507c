/- The unit whose slots have other names, made in memory. -/
import Derived.Test.YtgalekifgnecjaaGreatQ3
import Derived.Test.YtgalekifgnecjaaGreatQ2
import Derived.Test.YtgalekifgnecjaaGreatT7
import Derived.BigQuiet
import Derived.Deep.RegionHeld3
namespace Go.Proofs.YtgalekifgnecjaaGreat
open Go.RowKit Go.Shelf
attribute [local go_sem] Oper.semAt_some
attribute [local irreducible] wpStill
def mixL (f : Int → Int) (u : UntN) (t : Nat) : List InsN := (u.code.take t).map (renI f) ++ u.code.drop t
theorem mixL_zero (f : Int → Int) (u : UntN) : mixL f u 0 = u.code := by simp [mixL]
theorem mixL_end (f : Int → Int) (u : UntN) : mixL f u u.code.length = u.code.map (renI f) := by simp [mixL]
theorem mixL_len (f : Int → Int) (u : UntN) {t : Nat} (h : t ≤ u.code.length) : (mixL f u t).length = u.code.length := by
  unfold mixL
  rw [List.length_append, List.length_map, List.length_take, List.length_drop]
  omega
theorem mixL_at (f : Int → Int) (u : UntN) {t : Nat} (h : t < u.code.length) : (mixL f u t).set t u.code[t] = mixL f u t := by
  unfold mixL
  have e : ((u.code.take t).map (renI f)).length = t := by rw [List.length_map, List.length_take]; omega
  rw [List.set_append, if_neg (by omega), e, Nat.sub_self, List.drop_eq_getElem_cons h, List.set_cons_zero]
theorem mixL_set (f : Int → Int) (u : UntN) {t : Nat} (h : t < u.code.length) : (mixL f u t).set t (renI f u.code[t]) = mixL f u (t + 1) := by
  unfold mixL
  have e : ((u.code.take t).map (renI f)).length = t := by rw [List.length_map, List.length_take]; omega
  rw [List.set_append, if_neg (by omega), e, Nat.sub_self, List.drop_eq_getElem_cons h, List.set_cons_zero, List.take_succ_eq_append_getElem h, List.map_append, List.append_assoc]
  rfl
theorem formAq : ∀ op ∈ rdA, (formL op).r0 = 1 ∧ (formL op).r1 = 0 ∧ (formL op).wr = 0 := by decide
theorem formBq : ∀ op ∈ rdB, (formL op).r0 = 2 ∧ (formL op).r1 = 0 := by decide
section
variable {f : Int → Int} (hs : ∀ y, setR y f = f y) (op a b c : Int)
theorem lenA (h : op ∈ rdA) : (readsL ⟨op, a, b, c⟩).length = if a = -1 then 0 else 1 := by
  obtain ⟨h0, h1, _⟩ := formAq op h
  unfold readsL readPart
  rw [h0, h1]
  show ((if 0 < (1 : Int) ∧ a ≠ -1 then [a] else []) ++ (if 0 < (0 : Int) ∧ _ then _ else [])).length = _
  rw [if_neg (show ¬ (0 < (0 : Int) ∧ _) from fun e => absurd e.1 (by decide))]
  by_cases ha : a = -1
  · rw [if_neg (fun e => e.2 ha), if_pos ha]; rfl
  · rw [if_pos ⟨by decide, ha⟩, if_neg ha]; rfl
theorem lenB (h : op ∈ rdB) : (readsL ⟨op, a, b, c⟩).length = if b = -1 then 0 else 1 := by
  obtain ⟨h0, h1⟩ := formBq op h
  unfold readsL readPart
  rw [h0, h1]
  show ((if 0 < (2 : Int) ∧ b ≠ -1 then [b] else []) ++ (if 0 < (0 : Int) ∧ _ then _ else [])).length = _
  rw [if_neg (show ¬ (0 < (0 : Int) ∧ _) from fun e => absurd e.1 (by decide))]
  by_cases ha : b = -1
  · rw [if_neg (fun e => e.2 ha), if_pos ha]; rfl
  · rw [if_pos ⟨by decide, ha⟩, if_neg ha]; rfl
theorem noneA (h : op ∈ rdA) : writesI ⟨op, a, b, c⟩ = -1 := by
  unfold writesI
  rw [if_pos (formAq op h).2.2]
include hs
theorem renA (h : op ∈ rdA) : renI f ⟨op, a, b, c⟩ = ⟨op, f a, b, c⟩ := by
  unfold renI replI
  rw [if_pos (List.contains_iff_mem.2 h), hs]
theorem renBC (h1 : rdA.contains op = false) (h : op ∈ rdBC) : renI f ⟨op, a, b, c⟩ = ⟨op, if 0 ≤ writesI ⟨op, a, b, c⟩ then f a else a, f b, f c⟩ := by
  unfold renI replI
  rw [if_neg (by rw [h1]; exact Bool.false_ne_true), if_pos (List.contains_iff_mem.2 h)]
  simp only [hs]
theorem renB (h1 : rdA.contains op = false) (h2 : rdBC.contains op = false) (h : op ∈ rdB) : renI f ⟨op, a, b, c⟩ = ⟨op, if 0 ≤ writesI ⟨op, a, b, c⟩ then f a else a, f b, c⟩ := by
  unfold renI replI
  rw [if_neg (by rw [h1]; exact Bool.false_ne_true), if_neg (by rw [h2]; exact Bool.false_ne_true), if_pos (List.contains_iff_mem.2 h)]
  simp only [hs]
theorem renN (h1 : rdA.contains op = false) (h2 : rdBC.contains op = false) (h3 : rdB.contains op = false) : renI f ⟨op, a, b, c⟩ = ⟨op, if 0 ≤ writesI ⟨op, a, b, c⟩ then f a else a, b, c⟩ := by
  unfold renI replI
  rw [if_neg (by rw [h1]; exact Bool.false_ne_true), if_neg (by rw [h2]; exact Bool.false_ne_true), if_neg (by rw [h3]; exact Bool.false_ne_true)]
  simp only [hs]
end
theorem box1 {W : World} {b : Nat} {x : Value} {T : TypeId} (h : W.heap[b]? = some (.cells #[x] T (0, 0))) : W.cell? ⟨b, 0, none⟩ = some x := (cell_of_row _ _ 0 _ _ _ h).trans rfl
/-- What named has made. -/
structure NmI (w : World) (u : UntN) (b : Int) (ca : Option Addr) (cc : Nat) (ga : Option Addr) (gc b3 b4 b6 b8 g cap : Nat) (wr : World) : Prop where
  hb : Below w.heap.size w wr
  hu : wr.heap[w.heap.size]? = some (oU u ca cc ga gc)
  hy : wr.heap[b3]? = some (.cells #[.int .i64 b] 3)
  hz : wr.heap[b4]? = some oZ
  hm : wr.heap[b6]? = some (.cells #[.int .i64 (u.slots - u.args)] 3)
  ho : wr.heap[b8]? = some (oU u (some ⟨g, 0, none⟩) cap ga gc)
  lt : w.heap.size < b3 ∧ b3 < b4 ∧ b4 < b6 ∧ b6 < b8 ∧ b8 < g
theorem NmI.below {w : World} {u : UntN} {b : Int} {ca : Option Addr} {cc : Nat} {ga : Option Addr} {gc b3 b4 b6 b8 g cap : Nat} {wr w' : World} (h : NmI w u b ca cc ga gc b3 b4 b6 b8 g cap wr) (hb : Below wr.heap.size wr w') : NmI w u b ca cc ga gc b3 b4 b6 b8 g cap w' :=
  ⟨h.hb.step hb, keepBox hb h.hu, keepBox hb h.hy, keepBox hb h.hz, keepBox hb h.hm, keepBox hb h.ho, h.lt⟩
theorem NmI.put {w : World} {u : UntN} {b : Int} {ca : Option Addr} {cc : Nat} {ga : Option Addr} {gc b3 b4 b6 b8 g cap : Nat} {wr : World} (h : NmI w u b ca cc ga gc b3 b4 b6 b8 g cap wr) (k : Nat) (v : Value) : NmI w u b ca cc ga gc b3 b4 b6 b8 g cap (wr.setCell ⟨g, k, none⟩ v) := by
  have hl := h.lt
  refine ⟨h.hb.setCell (p := ⟨g, k, none⟩) (by show _ ≤ g; omega) _, ?_, ?_, ?_, ?_, ?_, h.lt⟩
  · exact (heap_setCell_other _ _ _ _ (by show w.heap.size ≠ g; omega)).trans h.hu
  · exact (heap_setCell_other _ _ _ _ (by show b3 ≠ g; omega)).trans h.hy
  · exact (heap_setCell_other _ _ _ _ (by show b4 ≠ g; omega)).trans h.hz
  · exact (heap_setCell_other _ _ _ _ (by show b6 ≠ g; omega)).trans h.hm
  · exact (heap_setCell_other _ _ _ _ (by show b8 ≠ g; omega)).trans h.ho
/-- A round: the instruction in its box, and the one that is changed. -/
structure NmR (w : World) (u : UntN) (b : Int) (ca : Option Addr) (cc : Nat) (ga : Option Addr) (gc b3 b4 b6 b8 g cap bx : Nat) (x : InsN) (M : List InsN) (t : Nat) (y : InsN) (wr : World) : Prop where
  hi : NmI w u b ca cc ga gc b3 b4 b6 b8 g cap wr
  hx : wr.heap[bx]? = some (.cells #[.int .i64 x.op, .int .i64 x.a, .int .i64 x.b, .int .i64 x.c] 85)
  hc : BC wr g (M.set t y)
  hn : bx ≠ g
  ht : t < M.length
section
variable {w : World} {u : UntN} {b : Int} {ca : Option Addr} {cc : Nat} {ga : Option Addr} {gc b3 b4 b6 b8 g cap bx : Nat} {x : InsN} {M : List InsN} {t : Nat} {y : InsN} {wr : World}
theorem NmR.below (h : NmR w u b ca cc ga gc b3 b4 b6 b8 g cap bx x M t y wr) {w' : World} (hb : Below wr.heap.size wr w') : NmR w u b ca cc ga gc b3 b4 b6 b8 g cap bx x M t y w' :=
  ⟨h.hi.below hb, keepBox hb h.hx, h.hc.below hb, h.hn, h.ht⟩
theorem NmR.setA (h : NmR w u b ca cc ga gc b3 b4 b6 b8 g cap bx x M t y wr) (v : Int) : NmR w u b ca cc ga gc b3 b4 b6 b8 g cap bx x M t ⟨y.op, v, y.b, y.c⟩ (wr.setCell ⟨g, t * 4 + 1, none⟩ (.int .i64 v)) := by
  have e := h.hc.setA (i := t) (by rw [List.length_set]; exact h.ht) v
  rw [List.set_set] at e
  simp only [List.getElem_set_self] at e
  exact ⟨h.hi.put _ _, (heap_setCell_other _ _ _ _ h.hn).trans h.hx, e, h.hn, h.ht⟩
theorem NmR.setB (h : NmR w u b ca cc ga gc b3 b4 b6 b8 g cap bx x M t y wr) (v : Int) : NmR w u b ca cc ga gc b3 b4 b6 b8 g cap bx x M t ⟨y.op, y.a, v, y.c⟩ (wr.setCell ⟨g, t * 4 + 2, none⟩ (.int .i64 v)) := by
  have e := h.hc.setB (i := t) (by rw [List.length_set]; exact h.ht) v
  rw [List.set_set] at e
  simp only [List.getElem_set_self] at e
  exact ⟨h.hi.put _ _, (heap_setCell_other _ _ _ _ h.hn).trans h.hx, e, h.hn, h.ht⟩
theorem NmR.setC (h : NmR w u b ca cc ga gc b3 b4 b6 b8 g cap bx x M t y wr) (v : Int) : NmR w u b ca cc ga gc b3 b4 b6 b8 g cap bx x M t ⟨y.op, y.a, y.b, v⟩ (wr.setCell ⟨g, t * 4 + 3, none⟩ (.int .i64 v)) := by
  have e := h.hc.setC (i := t) (by rw [List.length_set]; exact h.ht) v
  rw [List.set_set] at e
  simp only [List.getElem_set_self] at e
  exact ⟨h.hi.put _ _, (heap_setCell_other _ _ _ _ h.hn).trans h.hx, e, h.hn, h.ht⟩
/-- The cells of the instruction that is changed. -/
theorem NmR.cells (h : NmR w u b ca cc ga gc b3 b4 b6 b8 g cap bx x M t y wr) : wr.cell? ⟨g, t * 4 + 1, none⟩ = some (.int .i64 y.a) ∧ wr.cell? ⟨g, t * 4 + 2, none⟩ = some (.int .i64 y.b) ∧ wr.cell? ⟨g, t * 4 + 3, none⟩ = some (.int .i64 y.c) := by
  obtain ⟨g', o', e, _, _, h1, h2, h3⟩ := h.hc.rd t (by rw [List.length_set]; exact h.ht)
  cases e
  simp only [Nat.zero_add, List.getElem_set_self] at h1 h2 h3
  exact ⟨h1, h2, h3⟩
end
/-- The results of named. -/
theorem named_ret {R : Ending → World → Prop} {a : Act} {w : World} {g1 : Nat} {c1 : Array Value} {x : Value} (h4 : a.tmps.getD 4 undef = .pointer (some ⟨g1, 0, none⟩)) (h5 : a.tmps.getD 5 undef = x)
    (H1 : w.heap[g1]? = some (.cells c1 25 (0, 0))) (s1 : c1.size = 7) (hd : a.defers = []) (hR : R (.returned (.tuple #[.agg c1, x])) w) : bodyPost Tryz.prog Tryz.f25 R .ret a w := by
  refine bodyPost_ret (v := .tuple #[.agg c1, x]) ?_ hd hR
  have e1 := run_loadVar_row (P := Tryz.prog) w g1 25 25 c1 (0, 0) _ H1 Tryz.underlying25 rfl (by rw [size25, s1])
  have p4 : a.tmps[4]?.getD undef = .pointer (some ⟨g1, 0, none⟩) := by simpa using h4
  have p5 : a.tmps[5]?.getD undef = x := by simpa using h5
  simp [results, Tryz.results25, p4, p5, asAddr, e1]
set_option maxRecDepth 100000 in
set_option maxHeartbeats 40000000 in
theorem named_any (u : UntN) (b : Int) (ca : Option Addr) (cc : Nat) (ga : Option Addr) (gc : Nat) (w : World) (hm : UnM w u ca cc ga gc) (ho : OpsIn u) (hl0 : 0 < u.code.length) (hl6 : u.code.length ≤ 600) (ha : 0 ≤ u.args) (han : u.args < u.slots) (hsn : u.slots ≤ 1000) (hb : 0 ≤ b ∧ b ≤ 255) :
    Calls Tryz.prog 25 #[vU u ca cc ga gc, .int .i64 b] w (fun e w' => Below w.heap.size w w' ∧ ∃ (b3 b6 g cap : Nat),
      e = .returned (.tuple #[vU (renU (turnI u.args u.slots b) u) (some ⟨g, 0, none⟩) cap ga gc, .func (.func 69) #[] #[.pointer (some ⟨w.heap.size, 0, none⟩), .pointer (some ⟨b3, 0, none⟩), .pointer (some ⟨b6, 0, none⟩)]]) ∧
      w'.heap[w.heap.size]? = some (oU u ca cc ga gc) ∧ w'.heap[b3]? = some (.cells #[.int .i64 b] 3) ∧ w'.heap[b6]? = some (.cells #[.int .i64 (u.slots - u.args)] 3) ∧ UnM w' (renU (turnI u.args u.slots b) u) (some ⟨g, 0, none⟩) cap ga gc) := by
  have hw1 : IntKind.i64.wrap (u.slots - u.args) = u.slots - u.args := wrapk (by omega)
  have HREN := hid (turn_ren ha han b)
  have HM := hid hm; clear hm
  have HCC := hid (fun (w' : World) (hb : Below w.heap.size w w') => cloneC_any u.code ca cc w' (rdC_iff.2 (HM.out.below hb).rc) (by omega))
  have HTO := hid (fun (wr : World) (c2 : wr.cell? ⟨w.heap.size, 2, none⟩ = some (.int .i64 u.args)) (c3 : wr.cell? ⟨w.heap.size, 3, none⟩ = some (.int .i64 u.slots)) b3 b6 (c4 : wr.cell? ⟨b3, 0, none⟩ = some (.int .i64 b)) (c6 : wr.cell? ⟨b6, 0, none⟩ = some (.int .i64 (u.slots - u.args))) (x : Int) => to_any x u.args u.slots b w.heap.size b3 b6 wr c2 c3 c4 c6 ha han hsn hb)
  have HRD := hid (fun i w => reads_any i w)
  have HWR := hid (fun i w => writes_any i w)
  have HOP := hid ho
  clear ho
  obtain ⟨f, hf⟩ : ∃ f, f = turnI u.args u.slots b := ⟨_, rfl⟩
  rw [← hf] at HREN HTO
  rw [← hf]
  clear hf
  go_enter Tryz.func25, Tryz.ntmps25
  go_upto_region 4 with fail
  clear hw1
  obtain ⟨b3, hb3⟩ : ∃ b, b = w.heap.size + 1 := ⟨_, rfl⟩
  obtain ⟨b4, hb4⟩ : ∃ b, b = b3 + 1 := ⟨_, rfl⟩
  obtain ⟨b6, hb6⟩ : ∃ b, b = b4 + 1 := ⟨_, rfl⟩
  obtain ⟨b8, hb8⟩ : ∃ b, b = b6 + 1 := ⟨_, rfl⟩
  obtain ⟨wa, hwa⟩ : ∃ wa, wa = (((((w.alloc (oU u ca cc ga gc)).alloc (.cells #[.int .i64 b] 3)).alloc oZ).alloc (.cells #[.int .i64 (u.slots - u.args)] 3)).alloc (oU u ca cc ga gc)) := ⟨_, rfl⟩
  have HA : Hid (Below w.heap.size w wa ∧ wa.heap[w.heap.size]? = some (oU u ca cc ga gc) ∧ wa.heap[b3]? = some (.cells #[.int .i64 b] 3) ∧ wa.heap[b4]? = some oZ ∧ wa.heap[b6]? = some (.cells #[.int .i64 (u.slots - u.args)] 3) ∧ wa.heap[b8]? = some (oU u ca cc ga gc) ∧ wa.heap.size = b8 + 1) := hid (by
    rw [hwa]
    refine ⟨((((bnew w _).step (bnew _ _)).step (bnew _ _)).step (bnew _ _)).step (bnew _ _), ?_, ?_, ?_, ?_, ?_, ?_⟩
    · exact keepBox (bnew _ _) (keepBox (bnew _ _) (keepBox (bnew _ _) (keepBox (bnew _ _) (heapn _ _ _ rfl))))
    · exact keepBox (bnew _ _) (keepBox (bnew _ _) (keepBox (bnew _ _) (heapn _ _ _ (by simp; omega))))
    · exact keepBox (bnew _ _) (keepBox (bnew _ _) (heapn _ _ _ (by simp; omega)))
    · exact keepBox (bnew _ _) (heapn _ _ _ (by simp; omega))
    · exact heapn _ _ _ (by simp; omega)
    · simp; omega)
  have HLT : Hid (w.heap.size < b3 ∧ b3 < b4 ∧ b4 < b6 ∧ b6 < b8) := hid (by omega)
  rw [← hb3, ← hb4, ← hb6, ← hb8, ← hwa]
  clear hb3 hb4 hb6 hb8 hwa
  have c5 := (box7 HA.out.2.1).2.2.2.2.2.1
  go_upto_region 5 with (first
    | (go_at_call 44; (with_reducible refine (HCC.out _ HA.out.1).mono ?_); rintro e w2 ⟨hb, v2, rfl, hown⟩; obtain ⟨g, cap, rfl, hg, hbc, hcap⟩ := BC.of_own hown (fun e => by rw [e] at hl0; exact absurd hl0 (Nat.lt_irrefl _)); have HB2 := hid hb; have HG := hid hg; have HBC := hid hbc; have HCP := hid hcap; clear hb hown hg hbc hcap; have h8 := keepBox HB2.out HA.out.2.2.2.2.2.1; have f5 := boxF 5 h8; have c8 := (box7 h8).2.2.2.2.2.1; clear h8))
  clear c5 f5 c8
  obtain ⟨wb, hwb⟩ : ∃ wb, wb = w2.setCell ⟨b8, 5, none⟩ (.slice (some ⟨g, 0, none⟩) u.code.length cap) := ⟨_, rfl⟩
  have HI : Hid (NmI w u b ca cc ga gc b3 b4 b6 b8 g cap wb ∧ BC wb g u.code) := hid (by
    obtain ⟨a1, a2, a3, a4, a5, a6, a7⟩ := HA.out
    have hl := HLT.out
    have hg := HG.out
    rw [hwb]
    refine ⟨⟨(a1.step HB2.out).setCell (p := ⟨b8, 5, none⟩) (by show _ ≤ b8; omega) _, ?_, ?_, ?_, ?_, heap_setCell_same _ _ 5 _ _ _ (keepBox HB2.out a6), by omega⟩, HBC.out.keep (heap_setCell_other _ _ _ _ (by show g ≠ b8; omega))⟩
    · exact (heap_setCell_other _ _ _ _ (by show w.heap.size ≠ b8; omega)).trans (keepBox HB2.out a2)
    · exact (heap_setCell_other _ _ _ _ (by show b3 ≠ b8; omega)).trans (keepBox HB2.out a3)
    · exact (heap_setCell_other _ _ _ _ (by show b4 ≠ b8; omega)).trans (keepBox HB2.out a4)
    · exact (heap_setCell_other _ _ _ _ (by show b6 ≠ b8; omega)).trans (keepBox HB2.out a5))
  rw [← hwb]
  clear hwb HA HB2 HG HBC HLT
  obtain ⟨k0, k1, k2, k3, k4, k5, k6⟩ := box7 HI.out.1.hu
  go_upto_region 6 with fail
  clear k0 k1 k2 k3 k4 k5 k6
  go_loopg [27] u.code.length (fun gh s27 wr => ∃ t : Nat, t ≤ u.code.length ∧ gh = u.code.length - t ∧ s27 = .int .i64 t ∧ Hid (NmI w u b ca cc ga gc b3 b4 b6 b8 g cap wr) ∧ Hid (BC wr g (mixL f u t)))
  case atStart => exact ⟨0, Nat.zero_le _, rfl, rfl, hid HI.out.1, hid (by rw [mixL_zero]; exact HI.out.2)⟩
  case round =>
    obtain ⟨t, ht, rfl, rfl, HI, HC⟩ := hrel
    by_cases htn : t < u.code.length
    · have nt : (t : Int) < (u.code.length : Int) := by omega
      obtain ⟨bc, oc, hca, _, q0, q1, q2, q3⟩ := HM.out.rc.below HI.out.hb t htn
      subst hca
      have HXO := hid (HOP.out _ (List.getElem_mem htn))
      have HXF := hid (ren_facts HREN.out u.code[t] HXO.out)
      have HM0 := hid (mixL_at f u htn)
      have HM1 := hid (mixL_set f u htn)
      have HML := hid (mixL_len f u ht)
      have k8 := (box7 HI.out.ho).2.2.2.2.2.1
      generalize mixL f u t = M at *
      generalize u.code[t] = x at *
      go_upto_region 8 with fail
      obtain ⟨bx, hbx⟩ : ∃ b, b = wr.heap.size := ⟨_, rfl⟩
      obtain ⟨wx, hwx⟩ : ∃ wx, wx = wr.alloc (.cells #[.int .i64 x.op, .int .i64 x.a, .int .i64 x.b, .int .i64 x.c] 85) := ⟨_, rfl⟩
      have HR : Hid (NmR w u b _ cc ga gc b3 b4 b6 b8 g cap bx x M t x wx) := hid (by
        rw [hwx]
        exact ⟨HI.out.below (bnew _ _), heapn _ _ _ hbx, by rw [HM0.out]; exact HC.out.below (bnew _ _), by have := HC.out.lt; omega, by rw [HML.out]; exact htn⟩)
      rw [← hbx, ← hwx]
      clear hbx hwx k8 q0 q1 q2 q3 HI HC
      have k8 := (box7 HR.out.hi.ho).2.2.2.2.2.1
      go_upto_region 9 with fail
      clear k8
      obtain ⟨k0, k1, k2, k3⟩ := box4 HR.out.hx
      go_upto_region 10 with (first
        | (go_at_call 70; (with_reducible refine (HRD.out x _).mono ?_); rintro e w3 ⟨hb, v3, rfl, ho⟩; obtain ⟨va, vc, rfl, _⟩ := ho.rd; have HR3 := hid (HR.out.below hb); clear hb ho))
      clear k0 k1 k2 k3
      obtain ⟨k0, k1, k2, k3⟩ := box4 HR3.out.hx
      obtain ⟨xo, xa, xb, xc⟩ := x
      dsimp only at k0 k1 k2 k3
      have HWX := hid (HWR.out ⟨xo, xa, xb, xc⟩)
      obtain ⟨rn, hrn⟩ : ∃ rn, rn = (readsL ⟨xo, xa, xb, xc⟩).length := ⟨_, rfl⟩
      rw [← hrn]
      have HRN := hid hrn
      clear hrn
      obtain ⟨ya, hya⟩ : ∃ ya, ya = if 0 ≤ writesI ⟨xo, xa, xb, xc⟩ then f xa else xa := ⟨_, rfl⟩
      have hs : ∀ y, setR y f = f y := fun y => by unfold setR; split; rfl; exact (HREN.out.neg (by omega)).symm
      have hs1 : f (-1) = -1 := HREN.out.neg (by omega)
      have HXO2 := HXO.out
      simp only at HXO2
      clear HR HXO HXF HOP
      obtain ⟨wv, hwv⟩ : ∃ wv, wv = writesI ⟨xo, xa, xb, xc⟩ := ⟨_, rfl⟩
      have HWV := hid hwv
      rw [← hwv] at HWX hya
      have HYI := hid hya
      clear hwv hya
      go_upto_if 40 with (first
        | (go_at_call 71; (with_reducible refine (HWX.out _).mono ?_); rintro e w4 ⟨rfl, hb⟩; have HR4 := hid (HR3.out.below hb); clear hb))
      clear k0 k1 k2 k3 HR3 HWX
      obtain ⟨e40, he40⟩ : ∃ e, e = decide (0 ≤ wv) := ⟨_, rfl⟩
      rw [← he40]
      have HE40 := hid he40
      clear he40
      go_cut [] from 41 to 47 (fun wy => Hid (NmR w u b (some ⟨bc, oc, none⟩) cc ga gc b3 b4 b6 b8 g cap bx ⟨xo, xa, xb, xc⟩ M t ⟨xo, ya, xb, xc⟩ wy))
      case first => as_aux_lemma =>
        clear HRN hs hs1 HXO2 HWV
        cases e40 with
        | true =>
          have hwa : 0 ≤ wv := of_decide_eq_true HE40.out.symm
          clear HE40
          have HYA : Hid (ya = f xa) := hid (by rw [HYI.out, if_pos hwa])
          clear HYI hwa
          obtain ⟨k0, k1, k2, k3⟩ := box4 HR4.out.hx
          dsimp only at k0 k1 k2 k3
          go_wp2_with (first
            | (go_at_call 69; (with_reducible refine (HTO.out _ (box7 HR4.out.hi.hu).2.2.1 (box7 HR4.out.hi.hu).2.2.2.1 b3 b6 (box1 HR4.out.hi.hy) (box1 HR4.out.hi.hm) xa).mono ?_); rintro e w5 ⟨rfl, hb⟩; have HR5 := hid (HR4.out.below hb); clear hb; obtain ⟨j1, j2, j3⟩ := HR5.out.cells; have j0 := HR5.out.hc.frozen))
          go_meet
          exact hid (by rw [HYA.out]; exact HR5.out.setA (f xa))
        | false =>
          have hwa : ¬ 0 ≤ wv := of_decide_eq_false HE40.out.symm
          clear HE40
          have HYA : Hid (ya = xa) := hid (by rw [HYI.out, if_neg hwa])
          clear HYI hwa
          go_wp2
          go_meet
          exact hid (by rw [HYA.out]; exact HR4.out)
      clear HR4 HE40
      case rest =>
      have HR6 := hcut
      clear hcut
      have hya := HYI.out
      rw [HWV.out] at hya
      clear HYI HWV
      have hrn := HRN.out
      clear HRN
      rcases op_cases HXO2 with rfl | rfl | rfl | rfl | rfl | rfl | rfl | rfl | rfl | rfl | rfl | rfl | rfl | rfl | rfl | rfl | rfl | rfl | rfl | rfl | rfl | rfl | rfl | rfl | rfl | rfl | rfl | rfl | rfl | rfl | rfl | rfl | rfl
      · -- 0
        as_aux_lemma =>
          clear hrn
          have HY : Hid (renI f ⟨0, xa, xb, xc⟩ = ⟨0, ya, xb, xc⟩) := hid (by rw [renN hs _ _ _ _ (by decide) (by decide) (by decide), ← hya])
          rw [HY.out] at HM1
          clear hs hs1 hya
          obtain ⟨k0, k1, k2, k3⟩ := box4 HR6.out.hx
          dsimp only at k0 k1 k2 k3
          go_wp2
          go_roundg (u.code.length - (t + 1))
          case measure => omega
          case rel => exact ⟨t + 1, by omega, rfl, by go_num, hid HR6.out.hi, hid (by rw [← HM1.out]; exact HR6.out.hc)⟩
      · -- 1
        as_aux_lemma =>
          clear hrn
          have HY : Hid (renI f ⟨1, xa, xb, xc⟩ = ⟨1, ya, xb, xc⟩) := hid (by rw [renN hs _ _ _ _ (by decide) (by decide) (by decide), ← hya])
          rw [HY.out] at HM1
          clear hs hs1 hya
          obtain ⟨k0, k1, k2, k3⟩ := box4 HR6.out.hx
          dsimp only at k0 k1 k2 k3
          go_wp2
          go_roundg (u.code.length - (t + 1))
          case measure => omega
          case rel => exact ⟨t + 1, by omega, rfl, by go_num, hid HR6.out.hi, hid (by rw [← HM1.out]; exact HR6.out.hc)⟩
      · -- 2
        as_aux_lemma =>
          clear hrn
          have HY : Hid (renI f ⟨2, xa, xb, xc⟩ = ⟨2, ya, xb, xc⟩) := hid (by rw [renN hs _ _ _ _ (by decide) (by decide) (by decide), ← hya])
          rw [HY.out] at HM1
          clear hs hs1 hya
          obtain ⟨k0, k1, k2, k3⟩ := box4 HR6.out.hx
          dsimp only at k0 k1 k2 k3
          go_wp2
          go_roundg (u.code.length - (t + 1))
          case measure => omega
          case rel => exact ⟨t + 1, by omega, rfl, by go_num, hid HR6.out.hi, hid (by rw [← HM1.out]; exact HR6.out.hc)⟩
      · -- 3
        as_aux_lemma =>
          clear hrn
          have HY : Hid (renI f ⟨3, xa, xb, xc⟩ = ⟨3, ya, xb, xc⟩) := hid (by rw [renN hs _ _ _ _ (by decide) (by decide) (by decide), ← hya])
          rw [HY.out] at HM1
          clear hs hs1 hya
          obtain ⟨k0, k1, k2, k3⟩ := box4 HR6.out.hx
          dsimp only at k0 k1 k2 k3
          go_wp2
          go_roundg (u.code.length - (t + 1))
          case measure => omega
          case rel => exact ⟨t + 1, by omega, rfl, by go_num, hid HR6.out.hi, hid (by rw [← HM1.out]; exact HR6.out.hc)⟩
      · -- 4
        by_cases hra : xb = -1
        · as_aux_lemma =>
            have hrn2 : rn = 0 := hrn.trans ((lenB _ _ _ _ (by decide)).trans (if_pos hra))
            clear hrn
            subst hrn2
            have HY : Hid (renI f ⟨4, xa, xb, xc⟩ = ⟨4, ya, xb, xc⟩) := hid (by rw [renB hs _ _ _ _ (by decide) (by decide) (by decide), ← hya, hra, hs1])
            rw [HY.out] at HM1
            clear hs hs1 hya
            clear hra
            obtain ⟨k0, k1, k2, k3⟩ := box4 HR6.out.hx
            dsimp only at k0 k1 k2 k3
            go_wp2
            go_roundg (u.code.length - (t + 1))
            case measure => omega
            case rel => exact ⟨t + 1, by omega, rfl, by go_num, hid HR6.out.hi, hid (by rw [← HM1.out]; exact HR6.out.hc)⟩
        · as_aux_lemma =>
            have hrn2 : rn = 1 := hrn.trans ((lenB _ _ _ _ (by decide)).trans (if_neg hra))
            clear hrn
            subst hrn2
            have HY : Hid (renI f ⟨4, xa, xb, xc⟩ = ⟨4, ya, f xb, xc⟩) := hid (by rw [renB hs _ _ _ _ (by decide) (by decide) (by decide), ← hya])
            rw [HY.out] at HM1
            clear hs hs1 hya
            clear hra
            obtain ⟨k0, k1, k2, k3⟩ := box4 HR6.out.hx
            dsimp only at k0 k1 k2 k3
            go_wp2_with (first
              | (go_at_call 69; (with_reducible refine (HTO.out _ (box7 HR6.out.hi.hu).2.2.1 (box7 HR6.out.hi.hu).2.2.2.1 b3 b6 (box1 HR6.out.hi.hy) (box1 HR6.out.hi.hm) xb).mono ?_); rintro e w7 ⟨rfl, hb⟩; have HR7 := hid (HR6.out.below hb); clear hb; obtain ⟨j1, j2, j3⟩ := HR7.out.cells; have j0 := HR7.out.hc.frozen))
            go_roundg (u.code.length - (t + 1))
            case measure => omega
            case rel => exact ⟨t + 1, by omega, rfl, by go_num, hid (HR7.out.setB (f xb)).hi, hid (by rw [← HM1.out]; exact (HR7.out.setB (f xb)).hc)⟩
      · -- 5
        as_aux_lemma =>
          clear hrn
          have HY : Hid (renI f ⟨5, xa, xb, xc⟩ = ⟨5, ya, xb, xc⟩) := hid (by rw [renN hs _ _ _ _ (by decide) (by decide) (by decide), ← hya])
          rw [HY.out] at HM1
          clear hs hs1 hya
          obtain ⟨k0, k1, k2, k3⟩ := box4 HR6.out.hx
          dsimp only at k0 k1 k2 k3
          go_wp2
          go_roundg (u.code.length - (t + 1))
          case measure => omega
          case rel => exact ⟨t + 1, by omega, rfl, by go_num, hid HR6.out.hi, hid (by rw [← HM1.out]; exact HR6.out.hc)⟩
      · -- 6
        as_aux_lemma =>
          clear hrn
          have HY : Hid (renI f ⟨6, xa, xb, xc⟩ = ⟨6, ya, f xb, f xc⟩) := hid (by rw [renBC hs _ _ _ _ (by decide) (by decide), ← hya])
          rw [HY.out] at HM1
          clear hs hs1 hya
          obtain ⟨k0, k1, k2, k3⟩ := box4 HR6.out.hx
          dsimp only at k0 k1 k2 k3
          go_upto_region 40 with fail
          obtain ⟨wd, hwd⟩ : ∃ wd, wd = wc := ⟨_, rfl⟩
          rw [← hwd]
          rw [← hwd] at HR6 k0 k1 k2 k3
          clear hwd
          have HS : Hid (∀ W, Below wd.heap.size wd W → W.cell? ⟨bx, 2, none⟩ = some (.int .i64 xb) ∧ W.cell? ⟨bx, 3, none⟩ = some (.int .i64 xc)) := hid (fun W hb => ⟨cell_later hb k2, cell_later hb k3⟩)
          have HRD0 : Hid (NmR w u b _ cc ga gc b3 b4 b6 b8 g cap bx _ M t _ wd.drew) := hid (HR6.out.below (bdrew _))
          clear k0 k1 k2 k3
          go_region_held3 (fun W => W.cell? ⟨bx, 2, none⟩ = some (.int .i64 xb) ∧ W.cell? ⟨bx, 3, none⟩ = some (.int .i64 xc))
            (first | exact HS.out _ (bdrew _) | exact HS.out _ hb7 | exact HS.out _ hb8 | exact ⟨(box4 (HR8.out.setB (f xb)).hx).2.2.1, (box4 (HR8.out.setB (f xb)).hx).2.2.2⟩ | exact ⟨(box4 ((HR8.out.setB (f xb)).setC (f xc)).hx).2.2.1, (box4 ((HR8.out.setB (f xb)).setC (f xc)).hx).2.2.2⟩ | exact HS.out _ (Below.refl _ _))
            (first
              | (go_at_call 69; (with_reducible refine (HTO.out _ (box7 HRD0.out.hi.hu).2.2.1 (box7 HRD0.out.hi.hu).2.2.2.1 b3 b6 (box1 HRD0.out.hi.hy) (box1 HRD0.out.hi.hm) xb).mono ?_); rintro e w7 ⟨rfl, hb⟩; have hb7 := (bdrew wd).step hb; have HR7 := hid (HRD0.out.below hb); clear hb)
              | (go_at_call 69; (with_reducible refine (HTO.out _ (box7 HR7.out.hi.hu).2.2.1 (box7 HR7.out.hi.hu).2.2.2.1 b3 b6 (box1 HR7.out.hi.hy) (box1 HR7.out.hi.hm) xc).mono ?_); rintro e w8 ⟨rfl, hb⟩; have hb8 := hb7.step hb; have HR8 := hid (HR7.out.below hb); clear hb; obtain ⟨j1, j2, j3⟩ := HR8.out.cells; have j0 := HR8.out.hc.frozen))
          all_goals
            go_wp2_with fail
            go_roundg (u.code.length - (t + 1))
            case measure => omega
            case rel => exact ⟨t + 1, by omega, rfl, by go_num, hid ((HR8.out.setB (f xb)).setC (f xc)).hi, hid (by rw [← HM1.out]; exact ((HR8.out.setB (f xb)).setC (f xc)).hc)⟩
      · -- 7
        as_aux_lemma =>
          clear hrn
          have HY : Hid (renI f ⟨7, xa, xb, xc⟩ = ⟨7, ya, f xb, f xc⟩) := hid (by rw [renBC hs _ _ _ _ (by decide) (by decide), ← hya])
          rw [HY.out] at HM1
          clear hs hs1 hya
          obtain ⟨k0, k1, k2, k3⟩ := box4 HR6.out.hx
          dsimp only at k0 k1 k2 k3
          go_upto_region 40 with fail
          obtain ⟨wd, hwd⟩ : ∃ wd, wd = wc := ⟨_, rfl⟩
          rw [← hwd]
          rw [← hwd] at HR6 k0 k1 k2 k3
          clear hwd
          have HS : Hid (∀ W, Below wd.heap.size wd W → W.cell? ⟨bx, 2, none⟩ = some (.int .i64 xb) ∧ W.cell? ⟨bx, 3, none⟩ = some (.int .i64 xc)) := hid (fun W hb => ⟨cell_later hb k2, cell_later hb k3⟩)
          have HRD0 : Hid (NmR w u b _ cc ga gc b3 b4 b6 b8 g cap bx _ M t _ wd.drew) := hid (HR6.out.below (bdrew _))
          clear k0 k1 k2 k3
          go_region_held3 (fun W => W.cell? ⟨bx, 2, none⟩ = some (.int .i64 xb) ∧ W.cell? ⟨bx, 3, none⟩ = some (.int .i64 xc))
            (first | exact HS.out _ (bdrew _) | exact HS.out _ hb7 | exact HS.out _ hb8 | exact ⟨(box4 (HR8.out.setB (f xb)).hx).2.2.1, (box4 (HR8.out.setB (f xb)).hx).2.2.2⟩ | exact ⟨(box4 ((HR8.out.setB (f xb)).setC (f xc)).hx).2.2.1, (box4 ((HR8.out.setB (f xb)).setC (f xc)).hx).2.2.2⟩ | exact HS.out _ (Below.refl _ _))
            (first
              | (go_at_call 69; (with_reducible refine (HTO.out _ (box7 HRD0.out.hi.hu).2.2.1 (box7 HRD0.out.hi.hu).2.2.2.1 b3 b6 (box1 HRD0.out.hi.hy) (box1 HRD0.out.hi.hm) xb).mono ?_); rintro e w7 ⟨rfl, hb⟩; have hb7 := (bdrew wd).step hb; have HR7 := hid (HRD0.out.below hb); clear hb)
              | (go_at_call 69; (with_reducible refine (HTO.out _ (box7 HR7.out.hi.hu).2.2.1 (box7 HR7.out.hi.hu).2.2.2.1 b3 b6 (box1 HR7.out.hi.hy) (box1 HR7.out.hi.hm) xc).mono ?_); rintro e w8 ⟨rfl, hb⟩; have hb8 := hb7.step hb; have HR8 := hid (HR7.out.below hb); clear hb; obtain ⟨j1, j2, j3⟩ := HR8.out.cells; have j0 := HR8.out.hc.frozen))
          all_goals
            go_wp2_with fail
            go_roundg (u.code.length - (t + 1))
            case measure => omega
            case rel => exact ⟨t + 1, by omega, rfl, by go_num, hid ((HR8.out.setB (f xb)).setC (f xc)).hi, hid (by rw [← HM1.out]; exact ((HR8.out.setB (f xb)).setC (f xc)).hc)⟩
      · -- 8
        as_aux_lemma =>
          clear hrn
          have HY : Hid (renI f ⟨8, xa, xb, xc⟩ = ⟨8, ya, f xb, f xc⟩) := hid (by rw [renBC hs _ _ _ _ (by decide) (by decide), ← hya])
          rw [HY.out] at HM1
          clear hs hs1 hya
          obtain ⟨k0, k1, k2, k3⟩ := box4 HR6.out.hx
          dsimp only at k0 k1 k2 k3
          go_upto_region 40 with fail
          obtain ⟨wd, hwd⟩ : ∃ wd, wd = wc := ⟨_, rfl⟩
          rw [← hwd]
          rw [← hwd] at HR6 k0 k1 k2 k3
          clear hwd
          have HS : Hid (∀ W, Below wd.heap.size wd W → W.cell? ⟨bx, 2, none⟩ = some (.int .i64 xb) ∧ W.cell? ⟨bx, 3, none⟩ = some (.int .i64 xc)) := hid (fun W hb => ⟨cell_later hb k2, cell_later hb k3⟩)
          have HRD0 : Hid (NmR w u b _ cc ga gc b3 b4 b6 b8 g cap bx _ M t _ wd.drew) := hid (HR6.out.below (bdrew _))
          clear k0 k1 k2 k3
          go_region_held3 (fun W => W.cell? ⟨bx, 2, none⟩ = some (.int .i64 xb) ∧ W.cell? ⟨bx, 3, none⟩ = some (.int .i64 xc))
            (first | exact HS.out _ (bdrew _) | exact HS.out _ hb7 | exact HS.out _ hb8 | exact ⟨(box4 (HR8.out.setB (f xb)).hx).2.2.1, (box4 (HR8.out.setB (f xb)).hx).2.2.2⟩ | exact ⟨(box4 ((HR8.out.setB (f xb)).setC (f xc)).hx).2.2.1, (box4 ((HR8.out.setB (f xb)).setC (f xc)).hx).2.2.2⟩ | exact HS.out _ (Below.refl _ _))
            (first
              | (go_at_call 69; (with_reducible refine (HTO.out _ (box7 HRD0.out.hi.hu).2.2.1 (box7 HRD0.out.hi.hu).2.2.2.1 b3 b6 (box1 HRD0.out.hi.hy) (box1 HRD0.out.hi.hm) xb).mono ?_); rintro e w7 ⟨rfl, hb⟩; have hb7 := (bdrew wd).step hb; have HR7 := hid (HRD0.out.below hb); clear hb)
              | (go_at_call 69; (with_reducible refine (HTO.out _ (box7 HR7.out.hi.hu).2.2.1 (box7 HR7.out.hi.hu).2.2.2.1 b3 b6 (box1 HR7.out.hi.hy) (box1 HR7.out.hi.hm) xc).mono ?_); rintro e w8 ⟨rfl, hb⟩; have hb8 := hb7.step hb; have HR8 := hid (HR7.out.below hb); clear hb; obtain ⟨j1, j2, j3⟩ := HR8.out.cells; have j0 := HR8.out.hc.frozen))
          all_goals
            go_wp2_with fail
            go_roundg (u.code.length - (t + 1))
            case measure => omega
            case rel => exact ⟨t + 1, by omega, rfl, by go_num, hid ((HR8.out.setB (f xb)).setC (f xc)).hi, hid (by rw [← HM1.out]; exact ((HR8.out.setB (f xb)).setC (f xc)).hc)⟩
      · -- 9
        as_aux_lemma =>
          clear hrn
          have HY : Hid (renI f ⟨9, xa, xb, xc⟩ = ⟨9, ya, f xb, f xc⟩) := hid (by rw [renBC hs _ _ _ _ (by decide) (by decide), ← hya])
          rw [HY.out] at HM1
          clear hs hs1 hya
          obtain ⟨k0, k1, k2, k3⟩ := box4 HR6.out.hx
          dsimp only at k0 k1 k2 k3
          go_upto_region 40 with fail
          obtain ⟨wd, hwd⟩ : ∃ wd, wd = wc := ⟨_, rfl⟩
          rw [← hwd]
          rw [← hwd] at HR6 k0 k1 k2 k3
          clear hwd
          have HS : Hid (∀ W, Below wd.heap.size wd W → W.cell? ⟨bx, 2, none⟩ = some (.int .i64 xb) ∧ W.cell? ⟨bx, 3, none⟩ = some (.int .i64 xc)) := hid (fun W hb => ⟨cell_later hb k2, cell_later hb k3⟩)
          have HRD0 : Hid (NmR w u b _ cc ga gc b3 b4 b6 b8 g cap bx _ M t _ wd.drew) := hid (HR6.out.below (bdrew _))
          clear k0 k1 k2 k3
          go_region_held3 (fun W => W.cell? ⟨bx, 2, none⟩ = some (.int .i64 xb) ∧ W.cell? ⟨bx, 3, none⟩ = some (.int .i64 xc))
            (first | exact HS.out _ (bdrew _) | exact HS.out _ hb7 | exact HS.out _ hb8 | exact ⟨(box4 (HR8.out.setB (f xb)).hx).2.2.1, (box4 (HR8.out.setB (f xb)).hx).2.2.2⟩ | exact ⟨(box4 ((HR8.out.setB (f xb)).setC (f xc)).hx).2.2.1, (box4 ((HR8.out.setB (f xb)).setC (f xc)).hx).2.2.2⟩ | exact HS.out _ (Below.refl _ _))
            (first
              | (go_at_call 69; (with_reducible refine (HTO.out _ (box7 HRD0.out.hi.hu).2.2.1 (box7 HRD0.out.hi.hu).2.2.2.1 b3 b6 (box1 HRD0.out.hi.hy) (box1 HRD0.out.hi.hm) xb).mono ?_); rintro e w7 ⟨rfl, hb⟩; have hb7 := (bdrew wd).step hb; have HR7 := hid (HRD0.out.below hb); clear hb)
              | (go_at_call 69; (with_reducible refine (HTO.out _ (box7 HR7.out.hi.hu).2.2.1 (box7 HR7.out.hi.hu).2.2.2.1 b3 b6 (box1 HR7.out.hi.hy) (box1 HR7.out.hi.hm) xc).mono ?_); rintro e w8 ⟨rfl, hb⟩; have hb8 := hb7.step hb; have HR8 := hid (HR7.out.below hb); clear hb; obtain ⟨j1, j2, j3⟩ := HR8.out.cells; have j0 := HR8.out.hc.frozen))
          all_goals
            go_wp2_with fail
            go_roundg (u.code.length - (t + 1))
            case measure => omega
            case rel => exact ⟨t + 1, by omega, rfl, by go_num, hid ((HR8.out.setB (f xb)).setC (f xc)).hi, hid (by rw [← HM1.out]; exact ((HR8.out.setB (f xb)).setC (f xc)).hc)⟩
      · -- 10
        as_aux_lemma =>
          clear hrn
          have HY : Hid (renI f ⟨10, xa, xb, xc⟩ = ⟨10, ya, f xb, f xc⟩) := hid (by rw [renBC hs _ _ _ _ (by decide) (by decide), ← hya])
          rw [HY.out] at HM1
          clear hs hs1 hya
          obtain ⟨k0, k1, k2, k3⟩ := box4 HR6.out.hx
          dsimp only at k0 k1 k2 k3
          go_upto_region 40 with fail
          obtain ⟨wd, hwd⟩ : ∃ wd, wd = wc := ⟨_, rfl⟩
          rw [← hwd]
          rw [← hwd] at HR6 k0 k1 k2 k3
          clear hwd
          have HS : Hid (∀ W, Below wd.heap.size wd W → W.cell? ⟨bx, 2, none⟩ = some (.int .i64 xb) ∧ W.cell? ⟨bx, 3, none⟩ = some (.int .i64 xc)) := hid (fun W hb => ⟨cell_later hb k2, cell_later hb k3⟩)
          have HRD0 : Hid (NmR w u b _ cc ga gc b3 b4 b6 b8 g cap bx _ M t _ wd.drew) := hid (HR6.out.below (bdrew _))
          clear k0 k1 k2 k3
          go_region_held3 (fun W => W.cell? ⟨bx, 2, none⟩ = some (.int .i64 xb) ∧ W.cell? ⟨bx, 3, none⟩ = some (.int .i64 xc))
            (first | exact HS.out _ (bdrew _) | exact HS.out _ hb7 | exact HS.out _ hb8 | exact ⟨(box4 (HR8.out.setB (f xb)).hx).2.2.1, (box4 (HR8.out.setB (f xb)).hx).2.2.2⟩ | exact ⟨(box4 ((HR8.out.setB (f xb)).setC (f xc)).hx).2.2.1, (box4 ((HR8.out.setB (f xb)).setC (f xc)).hx).2.2.2⟩ | exact HS.out _ (Below.refl _ _))
            (first
              | (go_at_call 69; (with_reducible refine (HTO.out _ (box7 HRD0.out.hi.hu).2.2.1 (box7 HRD0.out.hi.hu).2.2.2.1 b3 b6 (box1 HRD0.out.hi.hy) (box1 HRD0.out.hi.hm) xb).mono ?_); rintro e w7 ⟨rfl, hb⟩; have hb7 := (bdrew wd).step hb; have HR7 := hid (HRD0.out.below hb); clear hb)
              | (go_at_call 69; (with_reducible refine (HTO.out _ (box7 HR7.out.hi.hu).2.2.1 (box7 HR7.out.hi.hu).2.2.2.1 b3 b6 (box1 HR7.out.hi.hy) (box1 HR7.out.hi.hm) xc).mono ?_); rintro e w8 ⟨rfl, hb⟩; have hb8 := hb7.step hb; have HR8 := hid (HR7.out.below hb); clear hb; obtain ⟨j1, j2, j3⟩ := HR8.out.cells; have j0 := HR8.out.hc.frozen))
          all_goals
            go_wp2_with fail
            go_roundg (u.code.length - (t + 1))
            case measure => omega
            case rel => exact ⟨t + 1, by omega, rfl, by go_num, hid ((HR8.out.setB (f xb)).setC (f xc)).hi, hid (by rw [← HM1.out]; exact ((HR8.out.setB (f xb)).setC (f xc)).hc)⟩
      · -- 11
        by_cases hra : xb = -1
        · as_aux_lemma =>
            have hrn2 : rn = 0 := hrn.trans ((lenB _ _ _ _ (by decide)).trans (if_pos hra))
            clear hrn
            subst hrn2
            have HY : Hid (renI f ⟨11, xa, xb, xc⟩ = ⟨11, ya, xb, xc⟩) := hid (by rw [renB hs _ _ _ _ (by decide) (by decide) (by decide), ← hya, hra, hs1])
            rw [HY.out] at HM1
            clear hs hs1 hya
            clear hra
            obtain ⟨k0, k1, k2, k3⟩ := box4 HR6.out.hx
            dsimp only at k0 k1 k2 k3
            go_wp2
            go_roundg (u.code.length - (t + 1))
            case measure => omega
            case rel => exact ⟨t + 1, by omega, rfl, by go_num, hid HR6.out.hi, hid (by rw [← HM1.out]; exact HR6.out.hc)⟩
        · as_aux_lemma =>
            have hrn2 : rn = 1 := hrn.trans ((lenB _ _ _ _ (by decide)).trans (if_neg hra))
            clear hrn
            subst hrn2
            have HY : Hid (renI f ⟨11, xa, xb, xc⟩ = ⟨11, ya, f xb, xc⟩) := hid (by rw [renB hs _ _ _ _ (by decide) (by decide) (by decide), ← hya])
            rw [HY.out] at HM1
            clear hs hs1 hya
            clear hra
            obtain ⟨k0, k1, k2, k3⟩ := box4 HR6.out.hx
            dsimp only at k0 k1 k2 k3
            go_wp2_with (first
              | (go_at_call 69; (with_reducible refine (HTO.out _ (box7 HR6.out.hi.hu).2.2.1 (box7 HR6.out.hi.hu).2.2.2.1 b3 b6 (box1 HR6.out.hi.hy) (box1 HR6.out.hi.hm) xb).mono ?_); rintro e w7 ⟨rfl, hb⟩; have HR7 := hid (HR6.out.below hb); clear hb; obtain ⟨j1, j2, j3⟩ := HR7.out.cells; have j0 := HR7.out.hc.frozen))
            go_roundg (u.code.length - (t + 1))
            case measure => omega
            case rel => exact ⟨t + 1, by omega, rfl, by go_num, hid (HR7.out.setB (f xb)).hi, hid (by rw [← HM1.out]; exact (HR7.out.setB (f xb)).hc)⟩
      · -- 12
        as_aux_lemma =>
          clear hrn
          have HY : Hid (renI f ⟨12, xa, xb, xc⟩ = ⟨12, ya, f xb, f xc⟩) := hid (by rw [renBC hs _ _ _ _ (by decide) (by decide), ← hya])
          rw [HY.out] at HM1
          clear hs hs1 hya
          obtain ⟨k0, k1, k2, k3⟩ := box4 HR6.out.hx
          dsimp only at k0 k1 k2 k3
          go_upto_region 40 with fail
          obtain ⟨wd, hwd⟩ : ∃ wd, wd = wc := ⟨_, rfl⟩
          rw [← hwd]
          rw [← hwd] at HR6 k0 k1 k2 k3
          clear hwd
          have HS : Hid (∀ W, Below wd.heap.size wd W → W.cell? ⟨bx, 2, none⟩ = some (.int .i64 xb) ∧ W.cell? ⟨bx, 3, none⟩ = some (.int .i64 xc)) := hid (fun W hb => ⟨cell_later hb k2, cell_later hb k3⟩)
          have HRD0 : Hid (NmR w u b _ cc ga gc b3 b4 b6 b8 g cap bx _ M t _ wd.drew) := hid (HR6.out.below (bdrew _))
          clear k0 k1 k2 k3
          go_region_held3 (fun W => W.cell? ⟨bx, 2, none⟩ = some (.int .i64 xb) ∧ W.cell? ⟨bx, 3, none⟩ = some (.int .i64 xc))
            (first | exact HS.out _ (bdrew _) | exact HS.out _ hb7 | exact HS.out _ hb8 | exact ⟨(box4 (HR8.out.setB (f xb)).hx).2.2.1, (box4 (HR8.out.setB (f xb)).hx).2.2.2⟩ | exact ⟨(box4 ((HR8.out.setB (f xb)).setC (f xc)).hx).2.2.1, (box4 ((HR8.out.setB (f xb)).setC (f xc)).hx).2.2.2⟩ | exact HS.out _ (Below.refl _ _))
            (first
              | (go_at_call 69; (with_reducible refine (HTO.out _ (box7 HRD0.out.hi.hu).2.2.1 (box7 HRD0.out.hi.hu).2.2.2.1 b3 b6 (box1 HRD0.out.hi.hy) (box1 HRD0.out.hi.hm) xb).mono ?_); rintro e w7 ⟨rfl, hb⟩; have hb7 := (bdrew wd).step hb; have HR7 := hid (HRD0.out.below hb); clear hb)
              | (go_at_call 69; (with_reducible refine (HTO.out _ (box7 HR7.out.hi.hu).2.2.1 (box7 HR7.out.hi.hu).2.2.2.1 b3 b6 (box1 HR7.out.hi.hy) (box1 HR7.out.hi.hm) xc).mono ?_); rintro e w8 ⟨rfl, hb⟩; have hb8 := hb7.step hb; have HR8 := hid (HR7.out.below hb); clear hb; obtain ⟨j1, j2, j3⟩ := HR8.out.cells; have j0 := HR8.out.hc.frozen))
          all_goals
            go_wp2_with fail
            go_roundg (u.code.length - (t + 1))
            case measure => omega
            case rel => exact ⟨t + 1, by omega, rfl, by go_num, hid ((HR8.out.setB (f xb)).setC (f xc)).hi, hid (by rw [← HM1.out]; exact ((HR8.out.setB (f xb)).setC (f xc)).hc)⟩
      · -- 13
        as_aux_lemma =>
          clear hrn
          have HY : Hid (renI f ⟨13, xa, xb, xc⟩ = ⟨13, ya, f xb, f xc⟩) := hid (by rw [renBC hs _ _ _ _ (by decide) (by decide), ← hya])
          rw [HY.out] at HM1
          clear hs hs1 hya
          obtain ⟨k0, k1, k2, k3⟩ := box4 HR6.out.hx
          dsimp only at k0 k1 k2 k3
          go_upto_region 40 with fail
          obtain ⟨wd, hwd⟩ : ∃ wd, wd = wc := ⟨_, rfl⟩
          rw [← hwd]
          rw [← hwd] at HR6 k0 k1 k2 k3
          clear hwd
          have HS : Hid (∀ W, Below wd.heap.size wd W → W.cell? ⟨bx, 2, none⟩ = some (.int .i64 xb) ∧ W.cell? ⟨bx, 3, none⟩ = some (.int .i64 xc)) := hid (fun W hb => ⟨cell_later hb k2, cell_later hb k3⟩)
          have HRD0 : Hid (NmR w u b _ cc ga gc b3 b4 b6 b8 g cap bx _ M t _ wd.drew) := hid (HR6.out.below (bdrew _))
          clear k0 k1 k2 k3
          go_region_held3 (fun W => W.cell? ⟨bx, 2, none⟩ = some (.int .i64 xb) ∧ W.cell? ⟨bx, 3, none⟩ = some (.int .i64 xc))
            (first | exact HS.out _ (bdrew _) | exact HS.out _ hb7 | exact HS.out _ hb8 | exact ⟨(box4 (HR8.out.setB (f xb)).hx).2.2.1, (box4 (HR8.out.setB (f xb)).hx).2.2.2⟩ | exact ⟨(box4 ((HR8.out.setB (f xb)).setC (f xc)).hx).2.2.1, (box4 ((HR8.out.setB (f xb)).setC (f xc)).hx).2.2.2⟩ | exact HS.out _ (Below.refl _ _))
            (first
              | (go_at_call 69; (with_reducible refine (HTO.out _ (box7 HRD0.out.hi.hu).2.2.1 (box7 HRD0.out.hi.hu).2.2.2.1 b3 b6 (box1 HRD0.out.hi.hy) (box1 HRD0.out.hi.hm) xb).mono ?_); rintro e w7 ⟨rfl, hb⟩; have hb7 := (bdrew wd).step hb; have HR7 := hid (HRD0.out.below hb); clear hb)
              | (go_at_call 69; (with_reducible refine (HTO.out _ (box7 HR7.out.hi.hu).2.2.1 (box7 HR7.out.hi.hu).2.2.2.1 b3 b6 (box1 HR7.out.hi.hy) (box1 HR7.out.hi.hm) xc).mono ?_); rintro e w8 ⟨rfl, hb⟩; have hb8 := hb7.step hb; have HR8 := hid (HR7.out.below hb); clear hb; obtain ⟨j1, j2, j3⟩ := HR8.out.cells; have j0 := HR8.out.hc.frozen))
          all_goals
            go_wp2_with fail
            go_roundg (u.code.length - (t + 1))
            case measure => omega
            case rel => exact ⟨t + 1, by omega, rfl, by go_num, hid ((HR8.out.setB (f xb)).setC (f xc)).hi, hid (by rw [← HM1.out]; exact ((HR8.out.setB (f xb)).setC (f xc)).hc)⟩
      · -- 14
        as_aux_lemma =>
          clear hrn
          have HY : Hid (renI f ⟨14, xa, xb, xc⟩ = ⟨14, ya, f xb, f xc⟩) := hid (by rw [renBC hs _ _ _ _ (by decide) (by decide), ← hya])
          rw [HY.out] at HM1
          clear hs hs1 hya
          obtain ⟨k0, k1, k2, k3⟩ := box4 HR6.out.hx
          dsimp only at k0 k1 k2 k3
          go_upto_region 40 with fail
          obtain ⟨wd, hwd⟩ : ∃ wd, wd = wc := ⟨_, rfl⟩
          rw [← hwd]
          rw [← hwd] at HR6 k0 k1 k2 k3
          clear hwd
          have HS : Hid (∀ W, Below wd.heap.size wd W → W.cell? ⟨bx, 2, none⟩ = some (.int .i64 xb) ∧ W.cell? ⟨bx, 3, none⟩ = some (.int .i64 xc)) := hid (fun W hb => ⟨cell_later hb k2, cell_later hb k3⟩)
          have HRD0 : Hid (NmR w u b _ cc ga gc b3 b4 b6 b8 g cap bx _ M t _ wd.drew) := hid (HR6.out.below (bdrew _))
          clear k0 k1 k2 k3
          go_region_held3 (fun W => W.cell? ⟨bx, 2, none⟩ = some (.int .i64 xb) ∧ W.cell? ⟨bx, 3, none⟩ = some (.int .i64 xc))
            (first | exact HS.out _ (bdrew _) | exact HS.out _ hb7 | exact HS.out _ hb8 | exact ⟨(box4 (HR8.out.setB (f xb)).hx).2.2.1, (box4 (HR8.out.setB (f xb)).hx).2.2.2⟩ | exact ⟨(box4 ((HR8.out.setB (f xb)).setC (f xc)).hx).2.2.1, (box4 ((HR8.out.setB (f xb)).setC (f xc)).hx).2.2.2⟩ | exact HS.out _ (Below.refl _ _))
            (first
              | (go_at_call 69; (with_reducible refine (HTO.out _ (box7 HRD0.out.hi.hu).2.2.1 (box7 HRD0.out.hi.hu).2.2.2.1 b3 b6 (box1 HRD0.out.hi.hy) (box1 HRD0.out.hi.hm) xb).mono ?_); rintro e w7 ⟨rfl, hb⟩; have hb7 := (bdrew wd).step hb; have HR7 := hid (HRD0.out.below hb); clear hb)
              | (go_at_call 69; (with_reducible refine (HTO.out _ (box7 HR7.out.hi.hu).2.2.1 (box7 HR7.out.hi.hu).2.2.2.1 b3 b6 (box1 HR7.out.hi.hy) (box1 HR7.out.hi.hm) xc).mono ?_); rintro e w8 ⟨rfl, hb⟩; have hb8 := hb7.step hb; have HR8 := hid (HR7.out.below hb); clear hb; obtain ⟨j1, j2, j3⟩ := HR8.out.cells; have j0 := HR8.out.hc.frozen))
          all_goals
            go_wp2_with fail
            go_roundg (u.code.length - (t + 1))
            case measure => omega
            case rel => exact ⟨t + 1, by omega, rfl, by go_num, hid ((HR8.out.setB (f xb)).setC (f xc)).hi, hid (by rw [← HM1.out]; exact ((HR8.out.setB (f xb)).setC (f xc)).hc)⟩
      · -- 15
        by_cases hra : xb = -1
        · as_aux_lemma =>
            have hrn2 : rn = 0 := hrn.trans ((lenB _ _ _ _ (by decide)).trans (if_pos hra))
            clear hrn
            subst hrn2
            have HY : Hid (renI f ⟨15, xa, xb, xc⟩ = ⟨15, ya, xb, xc⟩) := hid (by rw [renB hs _ _ _ _ (by decide) (by decide) (by decide), ← hya, hra, hs1])
            rw [HY.out] at HM1
            clear hs hs1 hya
            clear hra
            obtain ⟨k0, k1, k2, k3⟩ := box4 HR6.out.hx
            dsimp only at k0 k1 k2 k3
            go_wp2
            go_roundg (u.code.length - (t + 1))
            case measure => omega
            case rel => exact ⟨t + 1, by omega, rfl, by go_num, hid HR6.out.hi, hid (by rw [← HM1.out]; exact HR6.out.hc)⟩
        · as_aux_lemma =>
            have hrn2 : rn = 1 := hrn.trans ((lenB _ _ _ _ (by decide)).trans (if_neg hra))
            clear hrn
            subst hrn2
            have HY : Hid (renI f ⟨15, xa, xb, xc⟩ = ⟨15, ya, f xb, xc⟩) := hid (by rw [renB hs _ _ _ _ (by decide) (by decide) (by decide), ← hya])
            rw [HY.out] at HM1
            clear hs hs1 hya
            clear hra
            obtain ⟨k0, k1, k2, k3⟩ := box4 HR6.out.hx
            dsimp only at k0 k1 k2 k3
            go_wp2_with (first
              | (go_at_call 69; (with_reducible refine (HTO.out _ (box7 HR6.out.hi.hu).2.2.1 (box7 HR6.out.hi.hu).2.2.2.1 b3 b6 (box1 HR6.out.hi.hy) (box1 HR6.out.hi.hm) xb).mono ?_); rintro e w7 ⟨rfl, hb⟩; have HR7 := hid (HR6.out.below hb); clear hb; obtain ⟨j1, j2, j3⟩ := HR7.out.cells; have j0 := HR7.out.hc.frozen))
            go_roundg (u.code.length - (t + 1))
            case measure => omega
            case rel => exact ⟨t + 1, by omega, rfl, by go_num, hid (HR7.out.setB (f xb)).hi, hid (by rw [← HM1.out]; exact (HR7.out.setB (f xb)).hc)⟩
      · -- 16
        by_cases hra : xb = -1
        · as_aux_lemma =>
            have hrn2 : rn = 0 := hrn.trans ((lenB _ _ _ _ (by decide)).trans (if_pos hra))
            clear hrn
            subst hrn2
            have HY : Hid (renI f ⟨16, xa, xb, xc⟩ = ⟨16, ya, xb, xc⟩) := hid (by rw [renB hs _ _ _ _ (by decide) (by decide) (by decide), ← hya, hra, hs1])
            rw [HY.out] at HM1
            clear hs hs1 hya
            clear hra
            obtain ⟨k0, k1, k2, k3⟩ := box4 HR6.out.hx
            dsimp only at k0 k1 k2 k3
            go_wp2
            go_roundg (u.code.length - (t + 1))
            case measure => omega
            case rel => exact ⟨t + 1, by omega, rfl, by go_num, hid HR6.out.hi, hid (by rw [← HM1.out]; exact HR6.out.hc)⟩
        · as_aux_lemma =>
            have hrn2 : rn = 1 := hrn.trans ((lenB _ _ _ _ (by decide)).trans (if_neg hra))
            clear hrn
            subst hrn2
            have HY : Hid (renI f ⟨16, xa, xb, xc⟩ = ⟨16, ya, f xb, xc⟩) := hid (by rw [renB hs _ _ _ _ (by decide) (by decide) (by decide), ← hya])
            rw [HY.out] at HM1
            clear hs hs1 hya
            clear hra
            obtain ⟨k0, k1, k2, k3⟩ := box4 HR6.out.hx
            dsimp only at k0 k1 k2 k3
            go_wp2_with (first
              | (go_at_call 69; (with_reducible refine (HTO.out _ (box7 HR6.out.hi.hu).2.2.1 (box7 HR6.out.hi.hu).2.2.2.1 b3 b6 (box1 HR6.out.hi.hy) (box1 HR6.out.hi.hm) xb).mono ?_); rintro e w7 ⟨rfl, hb⟩; have HR7 := hid (HR6.out.below hb); clear hb; obtain ⟨j1, j2, j3⟩ := HR7.out.cells; have j0 := HR7.out.hc.frozen))
            go_roundg (u.code.length - (t + 1))
            case measure => omega
            case rel => exact ⟨t + 1, by omega, rfl, by go_num, hid (HR7.out.setB (f xb)).hi, hid (by rw [← HM1.out]; exact (HR7.out.setB (f xb)).hc)⟩
      · -- 17
        by_cases hra : xb = -1
        · as_aux_lemma =>
            have hrn2 : rn = 0 := hrn.trans ((lenB _ _ _ _ (by decide)).trans (if_pos hra))
            clear hrn
            subst hrn2
            have HY : Hid (renI f ⟨17, xa, xb, xc⟩ = ⟨17, ya, xb, xc⟩) := hid (by rw [renB hs _ _ _ _ (by decide) (by decide) (by decide), ← hya, hra, hs1])
            rw [HY.out] at HM1
            clear hs hs1 hya
            clear hra
            obtain ⟨k0, k1, k2, k3⟩ := box4 HR6.out.hx
            dsimp only at k0 k1 k2 k3
            go_wp2
            go_roundg (u.code.length - (t + 1))
            case measure => omega
            case rel => exact ⟨t + 1, by omega, rfl, by go_num, hid HR6.out.hi, hid (by rw [← HM1.out]; exact HR6.out.hc)⟩
        · as_aux_lemma =>
            have hrn2 : rn = 1 := hrn.trans ((lenB _ _ _ _ (by decide)).trans (if_neg hra))
            clear hrn
            subst hrn2
            have HY : Hid (renI f ⟨17, xa, xb, xc⟩ = ⟨17, ya, f xb, xc⟩) := hid (by rw [renB hs _ _ _ _ (by decide) (by decide) (by decide), ← hya])
            rw [HY.out] at HM1
            clear hs hs1 hya
            clear hra
            obtain ⟨k0, k1, k2, k3⟩ := box4 HR6.out.hx
            dsimp only at k0 k1 k2 k3
            go_wp2_with (first
              | (go_at_call 69; (with_reducible refine (HTO.out _ (box7 HR6.out.hi.hu).2.2.1 (box7 HR6.out.hi.hu).2.2.2.1 b3 b6 (box1 HR6.out.hi.hy) (box1 HR6.out.hi.hm) xb).mono ?_); rintro e w7 ⟨rfl, hb⟩; have HR7 := hid (HR6.out.below hb); clear hb; obtain ⟨j1, j2, j3⟩ := HR7.out.cells; have j0 := HR7.out.hc.frozen))
            go_roundg (u.code.length - (t + 1))
            case measure => omega
            case rel => exact ⟨t + 1, by omega, rfl, by go_num, hid (HR7.out.setB (f xb)).hi, hid (by rw [← HM1.out]; exact (HR7.out.setB (f xb)).hc)⟩
      · -- 18
        by_cases hra : xb = -1
        · as_aux_lemma =>
            have hrn2 : rn = 0 := hrn.trans ((lenB _ _ _ _ (by decide)).trans (if_pos hra))
            clear hrn
            subst hrn2
            have HY : Hid (renI f ⟨18, xa, xb, xc⟩ = ⟨18, ya, xb, xc⟩) := hid (by rw [renB hs _ _ _ _ (by decide) (by decide) (by decide), ← hya, hra, hs1])
            rw [HY.out] at HM1
            clear hs hs1 hya
            clear hra
            obtain ⟨k0, k1, k2, k3⟩ := box4 HR6.out.hx
            dsimp only at k0 k1 k2 k3
            go_wp2
            go_roundg (u.code.length - (t + 1))
            case measure => omega
            case rel => exact ⟨t + 1, by omega, rfl, by go_num, hid HR6.out.hi, hid (by rw [← HM1.out]; exact HR6.out.hc)⟩
        · as_aux_lemma =>
            have hrn2 : rn = 1 := hrn.trans ((lenB _ _ _ _ (by decide)).trans (if_neg hra))
            clear hrn
            subst hrn2
            have HY : Hid (renI f ⟨18, xa, xb, xc⟩ = ⟨18, ya, f xb, xc⟩) := hid (by rw [renB hs _ _ _ _ (by decide) (by decide) (by decide), ← hya])
            rw [HY.out] at HM1
            clear hs hs1 hya
            clear hra
            obtain ⟨k0, k1, k2, k3⟩ := box4 HR6.out.hx
            dsimp only at k0 k1 k2 k3
            go_wp2_with (first
              | (go_at_call 69; (with_reducible refine (HTO.out _ (box7 HR6.out.hi.hu).2.2.1 (box7 HR6.out.hi.hu).2.2.2.1 b3 b6 (box1 HR6.out.hi.hy) (box1 HR6.out.hi.hm) xb).mono ?_); rintro e w7 ⟨rfl, hb⟩; have HR7 := hid (HR6.out.below hb); clear hb; obtain ⟨j1, j2, j3⟩ := HR7.out.cells; have j0 := HR7.out.hc.frozen))
            go_roundg (u.code.length - (t + 1))
            case measure => omega
            case rel => exact ⟨t + 1, by omega, rfl, by go_num, hid (HR7.out.setB (f xb)).hi, hid (by rw [← HM1.out]; exact (HR7.out.setB (f xb)).hc)⟩
      · -- 19
        by_cases hra : xb = -1
        · as_aux_lemma =>
            have hrn2 : rn = 0 := hrn.trans ((lenB _ _ _ _ (by decide)).trans (if_pos hra))
            clear hrn
            subst hrn2
            have HY : Hid (renI f ⟨19, xa, xb, xc⟩ = ⟨19, ya, xb, xc⟩) := hid (by rw [renB hs _ _ _ _ (by decide) (by decide) (by decide), ← hya, hra, hs1])
            rw [HY.out] at HM1
            clear hs hs1 hya
            clear hra
            obtain ⟨k0, k1, k2, k3⟩ := box4 HR6.out.hx
            dsimp only at k0 k1 k2 k3
            go_wp2
            go_roundg (u.code.length - (t + 1))
            case measure => omega
            case rel => exact ⟨t + 1, by omega, rfl, by go_num, hid HR6.out.hi, hid (by rw [← HM1.out]; exact HR6.out.hc)⟩
        · as_aux_lemma =>
            have hrn2 : rn = 1 := hrn.trans ((lenB _ _ _ _ (by decide)).trans (if_neg hra))
            clear hrn
            subst hrn2
            have HY : Hid (renI f ⟨19, xa, xb, xc⟩ = ⟨19, ya, f xb, xc⟩) := hid (by rw [renB hs _ _ _ _ (by decide) (by decide) (by decide), ← hya])
            rw [HY.out] at HM1
            clear hs hs1 hya
            clear hra
            obtain ⟨k0, k1, k2, k3⟩ := box4 HR6.out.hx
            dsimp only at k0 k1 k2 k3
            go_wp2_with (first
              | (go_at_call 69; (with_reducible refine (HTO.out _ (box7 HR6.out.hi.hu).2.2.1 (box7 HR6.out.hi.hu).2.2.2.1 b3 b6 (box1 HR6.out.hi.hy) (box1 HR6.out.hi.hm) xb).mono ?_); rintro e w7 ⟨rfl, hb⟩; have HR7 := hid (HR6.out.below hb); clear hb; obtain ⟨j1, j2, j3⟩ := HR7.out.cells; have j0 := HR7.out.hc.frozen))
            go_roundg (u.code.length - (t + 1))
            case measure => omega
            case rel => exact ⟨t + 1, by omega, rfl, by go_num, hid (HR7.out.setB (f xb)).hi, hid (by rw [← HM1.out]; exact (HR7.out.setB (f xb)).hc)⟩
      · -- 20
        by_cases hra : xb = -1
        · as_aux_lemma =>
            have hrn2 : rn = 0 := hrn.trans ((lenB _ _ _ _ (by decide)).trans (if_pos hra))
            clear hrn
            subst hrn2
            have HY : Hid (renI f ⟨20, xa, xb, xc⟩ = ⟨20, ya, xb, xc⟩) := hid (by rw [renB hs _ _ _ _ (by decide) (by decide) (by decide), ← hya, hra, hs1])
            rw [HY.out] at HM1
            clear hs hs1 hya
            clear hra
            obtain ⟨k0, k1, k2, k3⟩ := box4 HR6.out.hx
            dsimp only at k0 k1 k2 k3
            go_wp2
            go_roundg (u.code.length - (t + 1))
            case measure => omega
            case rel => exact ⟨t + 1, by omega, rfl, by go_num, hid HR6.out.hi, hid (by rw [← HM1.out]; exact HR6.out.hc)⟩
        · as_aux_lemma =>
            have hrn2 : rn = 1 := hrn.trans ((lenB _ _ _ _ (by decide)).trans (if_neg hra))
            clear hrn
            subst hrn2
            have HY : Hid (renI f ⟨20, xa, xb, xc⟩ = ⟨20, ya, f xb, xc⟩) := hid (by rw [renB hs _ _ _ _ (by decide) (by decide) (by decide), ← hya])
            rw [HY.out] at HM1
            clear hs hs1 hya
            clear hra
            obtain ⟨k0, k1, k2, k3⟩ := box4 HR6.out.hx
            dsimp only at k0 k1 k2 k3
            go_wp2_with (first
              | (go_at_call 69; (with_reducible refine (HTO.out _ (box7 HR6.out.hi.hu).2.2.1 (box7 HR6.out.hi.hu).2.2.2.1 b3 b6 (box1 HR6.out.hi.hy) (box1 HR6.out.hi.hm) xb).mono ?_); rintro e w7 ⟨rfl, hb⟩; have HR7 := hid (HR6.out.below hb); clear hb; obtain ⟨j1, j2, j3⟩ := HR7.out.cells; have j0 := HR7.out.hc.frozen))
            go_roundg (u.code.length - (t + 1))
            case measure => omega
            case rel => exact ⟨t + 1, by omega, rfl, by go_num, hid (HR7.out.setB (f xb)).hi, hid (by rw [← HM1.out]; exact (HR7.out.setB (f xb)).hc)⟩
      · -- 21
        as_aux_lemma =>
          clear hrn
          have HY : Hid (renI f ⟨21, xa, xb, xc⟩ = ⟨21, ya, xb, xc⟩) := hid (by rw [renN hs _ _ _ _ (by decide) (by decide) (by decide), ← hya])
          rw [HY.out] at HM1
          clear hs hs1 hya
          obtain ⟨k0, k1, k2, k3⟩ := box4 HR6.out.hx
          dsimp only at k0 k1 k2 k3
          go_wp2
          go_roundg (u.code.length - (t + 1))
          case measure => omega
          case rel => exact ⟨t + 1, by omega, rfl, by go_num, hid HR6.out.hi, hid (by rw [← HM1.out]; exact HR6.out.hc)⟩
      · -- 22
        by_cases hra : xa = -1
        · as_aux_lemma =>
            have hrn2 : rn = 0 := hrn.trans ((lenA _ _ _ _ (by decide)).trans (if_pos hra))
            clear hrn
            subst hrn2
            have HY : Hid (renI f ⟨22, xa, xb, xc⟩ = ⟨22, ya, xb, xc⟩) := hid (by rw [renA hs _ _ _ _ (by decide), hya, noneA _ _ _ _ (by decide), if_neg (by decide), hra, hs1])
            rw [HY.out] at HM1
            clear hs hs1 hya
            clear hra
            obtain ⟨k0, k1, k2, k3⟩ := box4 HR6.out.hx
            dsimp only at k0 k1 k2 k3
            go_wp2
            go_roundg (u.code.length - (t + 1))
            case measure => omega
            case rel => exact ⟨t + 1, by omega, rfl, by go_num, hid HR6.out.hi, hid (by rw [← HM1.out]; exact HR6.out.hc)⟩
        · as_aux_lemma =>
            have hrn2 : rn = 1 := hrn.trans ((lenA _ _ _ _ (by decide)).trans (if_neg hra))
            clear hrn
            subst hrn2
            have HY : Hid (renI f ⟨22, xa, xb, xc⟩ = ⟨22, f xa, xb, xc⟩) := hid (renA hs _ _ _ _ (by decide))
            rw [HY.out] at HM1
            clear hs hs1 hya
            clear hra
            obtain ⟨k0, k1, k2, k3⟩ := box4 HR6.out.hx
            dsimp only at k0 k1 k2 k3
            go_wp2_with (first
              | (go_at_call 69; (with_reducible refine (HTO.out _ (box7 HR6.out.hi.hu).2.2.1 (box7 HR6.out.hi.hu).2.2.2.1 b3 b6 (box1 HR6.out.hi.hy) (box1 HR6.out.hi.hm) xa).mono ?_); rintro e w7 ⟨rfl, hb⟩; have HR7 := hid (HR6.out.below hb); clear hb; obtain ⟨j1, j2, j3⟩ := HR7.out.cells; have j0 := HR7.out.hc.frozen))
            go_roundg (u.code.length - (t + 1))
            case measure => omega
            case rel => exact ⟨t + 1, by omega, rfl, by go_num, hid (HR7.out.setA (f xa)).hi, hid (by rw [← HM1.out]; exact (HR7.out.setA (f xa)).hc)⟩
      · -- 23
        by_cases hra : xa = -1
        · as_aux_lemma =>
            have hrn2 : rn = 0 := hrn.trans ((lenA _ _ _ _ (by decide)).trans (if_pos hra))
            clear hrn
            subst hrn2
            have HY : Hid (renI f ⟨23, xa, xb, xc⟩ = ⟨23, ya, xb, xc⟩) := hid (by rw [renA hs _ _ _ _ (by decide), hya, noneA _ _ _ _ (by decide), if_neg (by decide), hra, hs1])
            rw [HY.out] at HM1
            clear hs hs1 hya
            clear hra
            obtain ⟨k0, k1, k2, k3⟩ := box4 HR6.out.hx
            dsimp only at k0 k1 k2 k3
            go_wp2
            go_roundg (u.code.length - (t + 1))
            case measure => omega
            case rel => exact ⟨t + 1, by omega, rfl, by go_num, hid HR6.out.hi, hid (by rw [← HM1.out]; exact HR6.out.hc)⟩
        · as_aux_lemma =>
            have hrn2 : rn = 1 := hrn.trans ((lenA _ _ _ _ (by decide)).trans (if_neg hra))
            clear hrn
            subst hrn2
            have HY : Hid (renI f ⟨23, xa, xb, xc⟩ = ⟨23, f xa, xb, xc⟩) := hid (renA hs _ _ _ _ (by decide))
            rw [HY.out] at HM1
            clear hs hs1 hya
            clear hra
            obtain ⟨k0, k1, k2, k3⟩ := box4 HR6.out.hx
            dsimp only at k0 k1 k2 k3
            go_wp2_with (first
              | (go_at_call 69; (with_reducible refine (HTO.out _ (box7 HR6.out.hi.hu).2.2.1 (box7 HR6.out.hi.hu).2.2.2.1 b3 b6 (box1 HR6.out.hi.hy) (box1 HR6.out.hi.hm) xa).mono ?_); rintro e w7 ⟨rfl, hb⟩; have HR7 := hid (HR6.out.below hb); clear hb; obtain ⟨j1, j2, j3⟩ := HR7.out.cells; have j0 := HR7.out.hc.frozen))
            go_roundg (u.code.length - (t + 1))
            case measure => omega
            case rel => exact ⟨t + 1, by omega, rfl, by go_num, hid (HR7.out.setA (f xa)).hi, hid (by rw [← HM1.out]; exact (HR7.out.setA (f xa)).hc)⟩
      · -- 24
        as_aux_lemma =>
          clear hrn
          have HY : Hid (renI f ⟨24, xa, xb, xc⟩ = ⟨24, ya, xb, xc⟩) := hid (by rw [renN hs _ _ _ _ (by decide) (by decide) (by decide), ← hya])
          rw [HY.out] at HM1
          clear hs hs1 hya
          obtain ⟨k0, k1, k2, k3⟩ := box4 HR6.out.hx
          dsimp only at k0 k1 k2 k3
          go_wp2
          go_roundg (u.code.length - (t + 1))
          case measure => omega
          case rel => exact ⟨t + 1, by omega, rfl, by go_num, hid HR6.out.hi, hid (by rw [← HM1.out]; exact HR6.out.hc)⟩
      · -- 25
        by_cases hra : xa = -1
        · as_aux_lemma =>
            have hrn2 : rn = 0 := hrn.trans ((lenA _ _ _ _ (by decide)).trans (if_pos hra))
            clear hrn
            subst hrn2
            have HY : Hid (renI f ⟨25, xa, xb, xc⟩ = ⟨25, ya, xb, xc⟩) := hid (by rw [renA hs _ _ _ _ (by decide), hya, noneA _ _ _ _ (by decide), if_neg (by decide), hra, hs1])
            rw [HY.out] at HM1
            clear hs hs1 hya
            clear hra
            obtain ⟨k0, k1, k2, k3⟩ := box4 HR6.out.hx
            dsimp only at k0 k1 k2 k3
            go_wp2
            go_roundg (u.code.length - (t + 1))
            case measure => omega
            case rel => exact ⟨t + 1, by omega, rfl, by go_num, hid HR6.out.hi, hid (by rw [← HM1.out]; exact HR6.out.hc)⟩
        · as_aux_lemma =>
            have hrn2 : rn = 1 := hrn.trans ((lenA _ _ _ _ (by decide)).trans (if_neg hra))
            clear hrn
            subst hrn2
            have HY : Hid (renI f ⟨25, xa, xb, xc⟩ = ⟨25, f xa, xb, xc⟩) := hid (renA hs _ _ _ _ (by decide))
            rw [HY.out] at HM1
            clear hs hs1 hya
            clear hra
            obtain ⟨k0, k1, k2, k3⟩ := box4 HR6.out.hx
            dsimp only at k0 k1 k2 k3
            go_wp2_with (first
              | (go_at_call 69; (with_reducible refine (HTO.out _ (box7 HR6.out.hi.hu).2.2.1 (box7 HR6.out.hi.hu).2.2.2.1 b3 b6 (box1 HR6.out.hi.hy) (box1 HR6.out.hi.hm) xa).mono ?_); rintro e w7 ⟨rfl, hb⟩; have HR7 := hid (HR6.out.below hb); clear hb; obtain ⟨j1, j2, j3⟩ := HR7.out.cells; have j0 := HR7.out.hc.frozen))
            go_roundg (u.code.length - (t + 1))
            case measure => omega
            case rel => exact ⟨t + 1, by omega, rfl, by go_num, hid (HR7.out.setA (f xa)).hi, hid (by rw [← HM1.out]; exact (HR7.out.setA (f xa)).hc)⟩
      · -- 26
        as_aux_lemma =>
          clear hrn
          have HY : Hid (renI f ⟨26, xa, xb, xc⟩ = ⟨26, ya, xb, xc⟩) := hid (by rw [renN hs _ _ _ _ (by decide) (by decide) (by decide), ← hya])
          rw [HY.out] at HM1
          clear hs hs1 hya
          obtain ⟨k0, k1, k2, k3⟩ := box4 HR6.out.hx
          dsimp only at k0 k1 k2 k3
          go_wp2
          go_roundg (u.code.length - (t + 1))
          case measure => omega
          case rel => exact ⟨t + 1, by omega, rfl, by go_num, hid HR6.out.hi, hid (by rw [← HM1.out]; exact HR6.out.hc)⟩
      · -- 27
        as_aux_lemma =>
          clear hrn
          have HY : Hid (renI f ⟨27, xa, xb, xc⟩ = ⟨27, ya, xb, xc⟩) := hid (by rw [renN hs _ _ _ _ (by decide) (by decide) (by decide), ← hya])
          rw [HY.out] at HM1
          clear hs hs1 hya
          obtain ⟨k0, k1, k2, k3⟩ := box4 HR6.out.hx
          dsimp only at k0 k1 k2 k3
          go_wp2
          go_roundg (u.code.length - (t + 1))
          case measure => omega
          case rel => exact ⟨t + 1, by omega, rfl, by go_num, hid HR6.out.hi, hid (by rw [← HM1.out]; exact HR6.out.hc)⟩
      · -- 28
        by_cases hra : xa = -1
        · as_aux_lemma =>
            have hrn2 : rn = 0 := hrn.trans ((lenA _ _ _ _ (by decide)).trans (if_pos hra))
            clear hrn
            subst hrn2
            have HY : Hid (renI f ⟨28, xa, xb, xc⟩ = ⟨28, ya, xb, xc⟩) := hid (by rw [renA hs _ _ _ _ (by decide), hya, noneA _ _ _ _ (by decide), if_neg (by decide), hra, hs1])
            rw [HY.out] at HM1
            clear hs hs1 hya
            clear hra
            obtain ⟨k0, k1, k2, k3⟩ := box4 HR6.out.hx
            dsimp only at k0 k1 k2 k3
            go_wp2
            go_roundg (u.code.length - (t + 1))
            case measure => omega
            case rel => exact ⟨t + 1, by omega, rfl, by go_num, hid HR6.out.hi, hid (by rw [← HM1.out]; exact HR6.out.hc)⟩
        · as_aux_lemma =>
            have hrn2 : rn = 1 := hrn.trans ((lenA _ _ _ _ (by decide)).trans (if_neg hra))
            clear hrn
            subst hrn2
            have HY : Hid (renI f ⟨28, xa, xb, xc⟩ = ⟨28, f xa, xb, xc⟩) := hid (renA hs _ _ _ _ (by decide))
            rw [HY.out] at HM1
            clear hs hs1 hya
            clear hra
            obtain ⟨k0, k1, k2, k3⟩ := box4 HR6.out.hx
            dsimp only at k0 k1 k2 k3
            go_wp2_with (first
              | (go_at_call 69; (with_reducible refine (HTO.out _ (box7 HR6.out.hi.hu).2.2.1 (box7 HR6.out.hi.hu).2.2.2.1 b3 b6 (box1 HR6.out.hi.hy) (box1 HR6.out.hi.hm) xa).mono ?_); rintro e w7 ⟨rfl, hb⟩; have HR7 := hid (HR6.out.below hb); clear hb; obtain ⟨j1, j2, j3⟩ := HR7.out.cells; have j0 := HR7.out.hc.frozen))
            go_roundg (u.code.length - (t + 1))
            case measure => omega
            case rel => exact ⟨t + 1, by omega, rfl, by go_num, hid (HR7.out.setA (f xa)).hi, hid (by rw [← HM1.out]; exact (HR7.out.setA (f xa)).hc)⟩
      · -- 29
        by_cases hra : xa = -1
        · as_aux_lemma =>
            have hrn2 : rn = 0 := hrn.trans ((lenA _ _ _ _ (by decide)).trans (if_pos hra))
            clear hrn
            subst hrn2
            have HY : Hid (renI f ⟨29, xa, xb, xc⟩ = ⟨29, ya, xb, xc⟩) := hid (by rw [renA hs _ _ _ _ (by decide), hya, noneA _ _ _ _ (by decide), if_neg (by decide), hra, hs1])
            rw [HY.out] at HM1
            clear hs hs1 hya
            clear hra
            obtain ⟨k0, k1, k2, k3⟩ := box4 HR6.out.hx
            dsimp only at k0 k1 k2 k3
            go_wp2
            go_roundg (u.code.length - (t + 1))
            case measure => omega
            case rel => exact ⟨t + 1, by omega, rfl, by go_num, hid HR6.out.hi, hid (by rw [← HM1.out]; exact HR6.out.hc)⟩
        · as_aux_lemma =>
            have hrn2 : rn = 1 := hrn.trans ((lenA _ _ _ _ (by decide)).trans (if_neg hra))
            clear hrn
            subst hrn2
            have HY : Hid (renI f ⟨29, xa, xb, xc⟩ = ⟨29, f xa, xb, xc⟩) := hid (renA hs _ _ _ _ (by decide))
            rw [HY.out] at HM1
            clear hs hs1 hya
            clear hra
            obtain ⟨k0, k1, k2, k3⟩ := box4 HR6.out.hx
            dsimp only at k0 k1 k2 k3
            go_wp2_with (first
              | (go_at_call 69; (with_reducible refine (HTO.out _ (box7 HR6.out.hi.hu).2.2.1 (box7 HR6.out.hi.hu).2.2.2.1 b3 b6 (box1 HR6.out.hi.hy) (box1 HR6.out.hi.hm) xa).mono ?_); rintro e w7 ⟨rfl, hb⟩; have HR7 := hid (HR6.out.below hb); clear hb; obtain ⟨j1, j2, j3⟩ := HR7.out.cells; have j0 := HR7.out.hc.frozen))
            go_roundg (u.code.length - (t + 1))
            case measure => omega
            case rel => exact ⟨t + 1, by omega, rfl, by go_num, hid (HR7.out.setA (f xa)).hi, hid (by rw [← HM1.out]; exact (HR7.out.setA (f xa)).hc)⟩
      · -- 30
        by_cases hra : xa = -1
        · as_aux_lemma =>
            have hrn2 : rn = 0 := hrn.trans ((lenA _ _ _ _ (by decide)).trans (if_pos hra))
            clear hrn
            subst hrn2
            have HY : Hid (renI f ⟨30, xa, xb, xc⟩ = ⟨30, ya, xb, xc⟩) := hid (by rw [renA hs _ _ _ _ (by decide), hya, noneA _ _ _ _ (by decide), if_neg (by decide), hra, hs1])
            rw [HY.out] at HM1
            clear hs hs1 hya
            clear hra
            obtain ⟨k0, k1, k2, k3⟩ := box4 HR6.out.hx
            dsimp only at k0 k1 k2 k3
            go_wp2
            go_roundg (u.code.length - (t + 1))
            case measure => omega
            case rel => exact ⟨t + 1, by omega, rfl, by go_num, hid HR6.out.hi, hid (by rw [← HM1.out]; exact HR6.out.hc)⟩
        · as_aux_lemma =>
            have hrn2 : rn = 1 := hrn.trans ((lenA _ _ _ _ (by decide)).trans (if_neg hra))
            clear hrn
            subst hrn2
            have HY : Hid (renI f ⟨30, xa, xb, xc⟩ = ⟨30, f xa, xb, xc⟩) := hid (renA hs _ _ _ _ (by decide))
            rw [HY.out] at HM1
            clear hs hs1 hya
            clear hra
            obtain ⟨k0, k1, k2, k3⟩ := box4 HR6.out.hx
            dsimp only at k0 k1 k2 k3
            go_wp2_with (first
              | (go_at_call 69; (with_reducible refine (HTO.out _ (box7 HR6.out.hi.hu).2.2.1 (box7 HR6.out.hi.hu).2.2.2.1 b3 b6 (box1 HR6.out.hi.hy) (box1 HR6.out.hi.hm) xa).mono ?_); rintro e w7 ⟨rfl, hb⟩; have HR7 := hid (HR6.out.below hb); clear hb; obtain ⟨j1, j2, j3⟩ := HR7.out.cells; have j0 := HR7.out.hc.frozen))
            go_roundg (u.code.length - (t + 1))
            case measure => omega
            case rel => exact ⟨t + 1, by omega, rfl, by go_num, hid (HR7.out.setA (f xa)).hi, hid (by rw [← HM1.out]; exact (HR7.out.setA (f xa)).hc)⟩
      · -- 31
        as_aux_lemma =>
          clear hrn
          have HY : Hid (renI f ⟨31, xa, xb, xc⟩ = ⟨31, ya, xb, xc⟩) := hid (by rw [renN hs _ _ _ _ (by decide) (by decide) (by decide), ← hya])
          rw [HY.out] at HM1
          clear hs hs1 hya
          obtain ⟨k0, k1, k2, k3⟩ := box4 HR6.out.hx
          dsimp only at k0 k1 k2 k3
          go_wp2
          go_roundg (u.code.length - (t + 1))
          case measure => omega
          case rel => exact ⟨t + 1, by omega, rfl, by go_num, hid HR6.out.hi, hid (by rw [← HM1.out]; exact HR6.out.hc)⟩
      · -- 32
        by_cases hra : xa = -1
        · as_aux_lemma =>
            have hrn2 : rn = 0 := hrn.trans ((lenA _ _ _ _ (by decide)).trans (if_pos hra))
            clear hrn
            subst hrn2
            have HY : Hid (renI f ⟨32, xa, xb, xc⟩ = ⟨32, ya, xb, xc⟩) := hid (by rw [renA hs _ _ _ _ (by decide), hya, noneA _ _ _ _ (by decide), if_neg (by decide), hra, hs1])
            rw [HY.out] at HM1
            clear hs hs1 hya
            clear hra
            obtain ⟨k0, k1, k2, k3⟩ := box4 HR6.out.hx
            dsimp only at k0 k1 k2 k3
            go_wp2
            go_roundg (u.code.length - (t + 1))
            case measure => omega
            case rel => exact ⟨t + 1, by omega, rfl, by go_num, hid HR6.out.hi, hid (by rw [← HM1.out]; exact HR6.out.hc)⟩
        · as_aux_lemma =>
            have hrn2 : rn = 1 := hrn.trans ((lenA _ _ _ _ (by decide)).trans (if_neg hra))
            clear hrn
            subst hrn2
            have HY : Hid (renI f ⟨32, xa, xb, xc⟩ = ⟨32, f xa, xb, xc⟩) := hid (renA hs _ _ _ _ (by decide))
            rw [HY.out] at HM1
            clear hs hs1 hya
            clear hra
            obtain ⟨k0, k1, k2, k3⟩ := box4 HR6.out.hx
            dsimp only at k0 k1 k2 k3
            go_wp2_with (first
              | (go_at_call 69; (with_reducible refine (HTO.out _ (box7 HR6.out.hi.hu).2.2.1 (box7 HR6.out.hi.hu).2.2.2.1 b3 b6 (box1 HR6.out.hi.hy) (box1 HR6.out.hi.hm) xa).mono ?_); rintro e w7 ⟨rfl, hb⟩; have HR7 := hid (HR6.out.below hb); clear hb; obtain ⟨j1, j2, j3⟩ := HR7.out.cells; have j0 := HR7.out.hc.frozen))
            go_roundg (u.code.length - (t + 1))
            case measure => omega
            case rel => exact ⟨t + 1, by omega, rfl, by go_num, hid (HR7.out.setA (f xa)).hi, hid (by rw [← HM1.out]; exact (HR7.out.setA (f xa)).hc)⟩
    · obtain rfl : t = u.code.length := by omega
      have nt : ¬ (u.code.length : Int) < (u.code.length : Int) := by omega
      obtain ⟨k0, k1, k2, k3, k4, k5, k6⟩ := box7 HI.out.ho
      have f0 := boxF 0 HI.out.hz; have f1 := boxF 1 HI.out.hz; have f2 := boxF 2 HI.out.hz; have f3 := boxF 3 HI.out.hz; have f4 := boxF 4 HI.out.hz; have f5 := boxF 5 HI.out.hz; have f6 := boxF 6 HI.out.hz
      obtain ⟨z0, z1, z2, z3, z4, z5, z6⟩ := box7 HI.out.hz
      go_wp2
      have hl := HI.out.lt
      have x1 := set7 HI.out.hz (.string u.cls) (.string u.name) (.int .i64 u.args) (.int .i64 u.slots) (.int .i64 u.frame) (.slice (some ⟨g, 0, none⟩) u.code.length cap) (.slice ga u.guards.length gc)
      have xb := set7_below (g := b4) HI.out.hb (by omega) (.string u.cls) (.string u.name) (.int .i64 u.args) (.int .i64 u.slots) (.int .i64 u.frame) (.slice (some ⟨g, 0, none⟩) u.code.length cap) (.slice ga u.guards.length gc)
      have xo := fun (k : Nat) (hk : k ≠ b4) => set7_other (w := wr) (g := b4) (k := k) hk (.string u.cls) (.string u.name) (.int .i64 u.args) (.int .i64 u.slots) (.int .i64 u.frame) (.slice (some ⟨g, 0, none⟩) u.code.length cap) (.slice ga u.guards.length gc)
      have hc := HC.out
      rw [mixL_end] at hc
      refine named_ret (g1 := b4) rfl rfl x1 rfl rfl ⟨xb, b3, b6, g, cap, ?_, (xo _ (by omega)).trans HI.out.hu, (xo _ (by omega)).trans HI.out.hy, (xo _ (by omega)).trans HI.out.hm, ⟨(hc.keep (xo _ (by omega))).rd, HM.out.rg.below xb, ?_, HM.out.lg⟩⟩
      · show Ending.returned _ = Ending.returned (.tuple #[.agg #[.string u.cls, .string u.name, .int .i64 u.args, .int .i64 u.slots, .int .i64 u.frame, .slice (some ⟨g, 0, none⟩) (u.code.map (renI f)).length cap, .slice ga u.guards.length gc], _])
        rw [List.length_map]
        rfl
      · show (u.code.map (renI f)).length ≤ cap
        rw [List.length_map]
        exact HCP.out
end Go.Proofs.YtgalekifgnecjaaGreat
