/- A unit with what is needed: flowOf, byItself, needed, next. needed of package regs. byItself of package regs. next of package regs. Press of package regs. -/
import Derived.Test.YtgalekifgnecjaaGreatM6
namespace Go.Proofs.YtgalekifgnecjaaGreat
open Go.RowKit

open Go.RowKit Go.Shelf
attribute [local go_sem] Oper.semAt_some
theorem OwnLL.slc {w : World} {base : Nat} {v : Value} {L : List (List Int)} (h : OwnLL w base v L) : ∃ a c, v = .slice a L.length c := by
  obtain ⟨xs, h1, h2, _⟩ := h
  obtain ⟨a, c, rfl, _⟩ := h1.rd
  exact ⟨a, c, by rw [h2]⟩
/-- The cells of a flow. -/
abbrev vFl (u : UntN) (ca : Option Addr) (cc : Nat) (ga : Option Addr) (gc : Nat) (v : Value) : Value := .agg #[.string u.cls, .string u.name, .int .i64 u.args, .int .i64 u.slots, .int .i64 u.frame, .slice ca u.code.length cc, .slice ga u.guards.length gc, v]
theorem box8 {W : World} {b : Nat} {x0 x1 x2 x3 x4 x5 x6 x7 : Value} {T : TypeId} (h : W.heap[b]? = some (.cells #[x0, x1, x2, x3, x4, x5, x6, x7] T (0, 0))) : W.cell? ⟨b, 0, none⟩ = some x0 ∧ W.cell? ⟨b, 1, none⟩ = some x1 ∧ W.cell? ⟨b, 2, none⟩ = some x2 ∧ W.cell? ⟨b, 3, none⟩ = some x3 ∧ W.cell? ⟨b, 4, none⟩ = some x4 ∧ W.cell? ⟨b, 5, none⟩ = some x5 ∧ W.cell? ⟨b, 6, none⟩ = some x6 ∧ W.cell? ⟨b, 7, none⟩ = some x7 :=
  ⟨(cell_of_row _ _ _ _ _ _ h).trans rfl, (cell_of_row _ _ _ _ _ _ h).trans rfl, (cell_of_row _ _ _ _ _ _ h).trans rfl, (cell_of_row _ _ _ _ _ _ h).trans rfl, (cell_of_row _ _ _ _ _ _ h).trans rfl, (cell_of_row _ _ _ _ _ _ h).trans rfl, (cell_of_row _ _ _ _ _ _ h).trans rfl, (cell_of_row _ _ _ _ _ _ h).trans rfl⟩
theorem size97 : (Tryz.prog.info? 97).map (·.size) = some 8 := by kernel_rfl
/-- Eight cells written. -/
theorem set8 {w : World} {g : Nat} {x0 x1 x2 x3 x4 x5 x6 x7 : Value} {T : TypeId} (h : w.heap[g]? = some (.cells #[x0, x1, x2, x3, x4, x5, x6, x7] T (0, 0))) (y0 y1 y2 y3 y4 y5 y6 y7 : Value) :
    ((((((((w.setCell ⟨g, 0, none⟩ y0).setCell ⟨g, 1, none⟩ y1).setCell ⟨g, 2, none⟩ y2).setCell ⟨g, 3, none⟩ y3).setCell ⟨g, 4, none⟩ y4).setCell ⟨g, 5, none⟩ y5).setCell ⟨g, 6, none⟩ y6).setCell ⟨g, 7, none⟩ y7).heap[g]? = some (.cells #[y0, y1, y2, y3, y4, y5, y6, y7] T (0, 0)) := by
  have h0 : (w.setCell ⟨g, 0, none⟩ y0).heap[g]? = some (.cells #[y0, x1, x2, x3, x4, x5, x6, x7] T (0, 0)) := heap_setCell_same _ _ 0 _ _ _ h
  clear h
  generalize w.setCell ⟨g, 0, none⟩ y0 = w at h0 ⊢
  have h1 : (w.setCell ⟨g, 1, none⟩ y1).heap[g]? = some (.cells #[y0, y1, x2, x3, x4, x5, x6, x7] T (0, 0)) := heap_setCell_same _ _ 1 _ _ _ h0
  clear h0
  generalize w.setCell ⟨g, 1, none⟩ y1 = w at h1 ⊢
  have h2 : (w.setCell ⟨g, 2, none⟩ y2).heap[g]? = some (.cells #[y0, y1, y2, x3, x4, x5, x6, x7] T (0, 0)) := heap_setCell_same _ _ 2 _ _ _ h1
  clear h1
  generalize w.setCell ⟨g, 2, none⟩ y2 = w at h2 ⊢
  have h3 : (w.setCell ⟨g, 3, none⟩ y3).heap[g]? = some (.cells #[y0, y1, y2, y3, x4, x5, x6, x7] T (0, 0)) := heap_setCell_same _ _ 3 _ _ _ h2
  clear h2
  generalize w.setCell ⟨g, 3, none⟩ y3 = w at h3 ⊢
  have h4 : (w.setCell ⟨g, 4, none⟩ y4).heap[g]? = some (.cells #[y0, y1, y2, y3, y4, x5, x6, x7] T (0, 0)) := heap_setCell_same _ _ 4 _ _ _ h3
  clear h3
  generalize w.setCell ⟨g, 4, none⟩ y4 = w at h4 ⊢
  have h5 : (w.setCell ⟨g, 5, none⟩ y5).heap[g]? = some (.cells #[y0, y1, y2, y3, y4, y5, x6, x7] T (0, 0)) := heap_setCell_same _ _ 5 _ _ _ h4
  clear h4
  generalize w.setCell ⟨g, 5, none⟩ y5 = w at h5 ⊢
  have h6 : (w.setCell ⟨g, 6, none⟩ y6).heap[g]? = some (.cells #[y0, y1, y2, y3, y4, y5, y6, x7] T (0, 0)) := heap_setCell_same _ _ 6 _ _ _ h5
  clear h5
  generalize w.setCell ⟨g, 6, none⟩ y6 = w at h6 ⊢
  have h7 : (w.setCell ⟨g, 7, none⟩ y7).heap[g]? = some (.cells #[y0, y1, y2, y3, y4, y5, y6, y7] T (0, 0)) := heap_setCell_same _ _ 7 _ _ _ h6
  clear h6
  generalize w.setCell ⟨g, 7, none⟩ y7 = w at h7 ⊢
  exact h7
theorem set8_below {B : Nat} {w0 w : World} {g : Nat} (h : Below B w0 w) (hg : B ≤ g) (y0 y1 y2 y3 y4 y5 y6 y7 : Value) :
    Below B w0 ((((((((w.setCell ⟨g, 0, none⟩ y0).setCell ⟨g, 1, none⟩ y1).setCell ⟨g, 2, none⟩ y2).setCell ⟨g, 3, none⟩ y3).setCell ⟨g, 4, none⟩ y4).setCell ⟨g, 5, none⟩ y5).setCell ⟨g, 6, none⟩ y6).setCell ⟨g, 7, none⟩ y7) :=
  (((((((h.setCell (p := ⟨g, 0, none⟩) hg _).setCell (p := ⟨g, 1, none⟩) hg _).setCell (p := ⟨g, 2, none⟩) hg _).setCell (p := ⟨g, 3, none⟩) hg _).setCell (p := ⟨g, 4, none⟩) hg _).setCell (p := ⟨g, 5, none⟩) hg _).setCell (p := ⟨g, 6, none⟩) hg _).setCell (p := ⟨g, 7, none⟩) hg _
theorem set8_other {w : World} {g k : Nat} (hn : k ≠ g) (y0 y1 y2 y3 y4 y5 y6 y7 : Value) :
    ((((((((w.setCell ⟨g, 0, none⟩ y0).setCell ⟨g, 1, none⟩ y1).setCell ⟨g, 2, none⟩ y2).setCell ⟨g, 3, none⟩ y3).setCell ⟨g, 4, none⟩ y4).setCell ⟨g, 5, none⟩ y5).setCell ⟨g, 6, none⟩ y6).setCell ⟨g, 7, none⟩ y7).heap[k]? = w.heap[k]? :=
  (heap_setCell_other _ _ _ _ hn).trans ((heap_setCell_other _ _ _ _ hn).trans ((heap_setCell_other _ _ _ _ hn).trans ((heap_setCell_other _ _ _ _ hn).trans ((heap_setCell_other _ _ _ _ hn).trans ((heap_setCell_other _ _ _ _ hn).trans ((heap_setCell_other _ _ _ _ hn).trans (heap_setCell_other _ _ _ _ hn)))))))
/-- The row of lists stays where only another block is written. -/
theorem OwnLL.but {w w' : World} {base g : Nat} {v : Value} {L : List (List Int)} (h : OwnLL w base v L) (hg : g < base) (ho : ∀ k, k ≠ g → w'.heap[k]? = w.heap[k]?) : OwnLL w' base v L := by
  obtain ⟨xs, h1, h2, h3⟩ := h
  refine ⟨xs, own_later h1 (fun b e _ => ho b (fun e2 => ?_)), h2, fun i a b => own_later (h3 i a b) (fun c e _ => ho c (fun e2 => ?_))⟩
  · have := own_ge h1 b e; omega
  · have := own_ge (h3 i a b) c e; omega
def FlRet (u : UntN) (ca : Option Addr) (cc : Nat) (ga : Option Addr) (gc : Nat) (w : World) (e : Ending) (w' : World) : Prop := Below w.heap.size w w' ∧ ∃ v, e = .returned (vFl u ca cc ga gc v) ∧ OwnLL w' w.heap.size v (liveL u)
/-- What a unit that can be written anew gives. -/
theorem writ_reads {u : UntN} (h : writB u = true) : ∀ t (ht : t < u.code.length), ∀ x ∈ readsL u.code[t], 0 ≤ x ∧ x < 1000000 := by
  intro t ht x hx
  have hp := writ_plain h
  have hs := plain_slots hp
  simp only [writB, Bool.and_eq_true, List.all_eq_true] at h
  have h1 := h.2 t (List.mem_range.2 ht)
  unfold writIns at h1
  simp only [Bool.and_eq_true, List.all_eq_true] at h1
  have h2 := h1.1.1.1.1.1.1 x (by rw [getD_in ht]; exact hx)
  simp only [inN, Bool.and_eq_true, decide_eq_true_eq] at h2
  omega
set_option maxRecDepth 100000 in
set_option maxHeartbeats 8000000 in
theorem flowOf_any (u : UntN) (ca : Option Addr) (cc : Nat) (ga : Option Addr) (gc : Nat) (w : World) (hm : UnM w u ca cc ga gc) (hw : writB u = true) :
    Calls Tryz.prog 48 #[vU u ca cc ga gc] w (FlRet u ca cc ga gc w) := by
  have HLV := hid (fun w' hb => live_yes u ca cc ga gc w' (hm.below hb) (writ_plain hw) (writ_reads hw))
  have HX1 := hid (heapn w (oU u ca cc ga gc) _ rfl)
  have HB := hid (bnew w (oU u ca cc ga gc))
  go_enter Tryz.func48, Tryz.ntmps48
  go_upto_region 1 with fail
  obtain ⟨w2, hw2⟩ : ∃ w2, w2 = (w.alloc (oU u ca cc ga gc)).alloc (.cells #[.string ⟨#[]⟩, .string ⟨#[]⟩, .int .i64 0, .int .i64 0, .int .i64 0, .slice none 0 0, .slice none 0 0, .slice none 0 0] 97) := ⟨_, rfl⟩
  have hx2 : w2.heap[w.heap.size]? = some (oU u ca cc ga gc) := by rw [hw2]; exact keepBox (bnew _ _) HX1.out
  have hf2 : w2.heap[w.heap.size + 1]? = some (.cells #[.string ⟨#[]⟩, .string ⟨#[]⟩, .int .i64 0, .int .i64 0, .int .i64 0, .slice none 0 0, .slice none 0 0, .slice none 0 0] 97) := by rw [hw2]; exact heapn _ _ _ (by simp)
  have hb2 : Below w.heap.size w w2 := by rw [hw2]; exact HB.out.step (bnew _ _)
  rw [← hw2]
  clear hw2
  have HX2 := hid (And.intro hx2 (And.intro hf2 hb2))
  obtain ⟨k0, k1, k2, k3, k4, k5, k6⟩ := box7 hx2
  have HX2d : Hid (w2.drew.heap[w.heap.size]? = some (oU u ca cc ga gc) ∧ w2.drew.heap[w.heap.size + 1]? = some (.cells #[.string ⟨#[]⟩, .string ⟨#[]⟩, .int .i64 0, .int .i64 0, .int .i64 0, .slice none 0 0, .slice none 0 0, .slice none 0 0] 97) ∧ Below w.heap.size w w2.drew) := hid ⟨hx2, hf2, hb2.step (bdrew _)⟩
  clear hx2 hf2 hb2
  go_region_with (first
    | (go_at_call 105; (with_reducible refine (HLV.out _ HX2d.out.2.2).mono ?_); rintro e w3 ⟨hb, v3, rfl, ho⟩; obtain ⟨va, vc, rfl⟩ := ho.slc; obtain ⟨j0, j1, j2, j3, j4, j5, j6⟩ := box7 (keepBox hb HX2d.out.1); have HF3 := hid (keepBox hb HX2d.out.2.1); have HB3 := hid (HX2d.out.2.2.step hb); have HO3 := hid ho; have hbx := keepBox hb HX2d.out.2.1; obtain ⟨q0, q1, q2, q3, q4, q5, q6, q7⟩ := box8 hbx; have f0 := boxF 0 hbx; have f1 := boxF 1 hbx; have f2 := boxF 2 hbx; have f3 := boxF 3 hbx; have f4 := boxF 4 hbx; have f5 := boxF 5 hbx; have f6 := boxF 6 hbx; have f7 := boxF 7 hbx; clear hb ho hbx))
  all_goals go_wp2
  all_goals exact bodyPost_ret (v := vFl u ca cc ga gc (.slice va (liveL u).length vc)) (results_cell_row rfl _ _ (w.heap.size + 1) 97 _ (0, 0) _ rfl (set8 HF3.out _ _ _ _ _ _ _ _) Tryz.underlying97 rfl size97) rfl ⟨set8_below HB3.out (by omega) _ _ _ _ _ _ _ _, _, rfl, (HO3.out.but (g := w.heap.size + 1) (lt_of_heap HX2d.out.2.1) (fun k hk => set8_other hk _ _ _ _ _ _ _ _)).mono (Nat.le_of_lt (Nat.lt_of_le_of_lt (Nat.le_succ _) (lt_of_heap HX2d.out.2.1)))⟩

/-- A row of lists, read off a slice. -/
def RdLL (w : World) (a : Option Addr) (L : List (List Int)) : Prop :=
  ∀ i (h : i < L.length), ∃ b off ai ci, a = some ⟨b, off, none⟩ ∧ b < w.heap.size ∧ w.cell? ⟨b, off + i, none⟩ = some (.slice ai L[i].length ci) ∧ RdI w ai L[i] ∧ L[i].length ≤ ci ∧ ∀ b2 o2, ai = some ⟨b2, o2, none⟩ → b2 < w.heap.size
theorem RdLL.below {w w' : World} {a : Option Addr} {L : List (List Int)} (h : RdLL w a L) (hb : Below w.heap.size w w') : RdLL w' a L := by
  intro i hi
  obtain ⟨b, off, ai, ci, ha, hlt, hc, hr, hl, hn⟩ := h i hi
  exact ⟨b, off, ai, ci, ha, Nat.lt_of_lt_of_le hlt hb.size, cell_later hb hc, hr.below hb, hl, fun b2 o2 e => Nat.lt_of_lt_of_le (hn b2 o2 e) hb.size⟩
theorem own_slice {w : World} {base n c : Nat} {a : Option Addr} {l : List Int} (h : OwnI w base (.slice a n c) l) : n = l.length ∧ l.length ≤ c ∧ RdI w a l ∧ ∀ b2 o2, a = some ⟨b2, o2, none⟩ → b2 < w.heap.size := by
  obtain ⟨a', c', e, hr⟩ := h.rd
  cases e
  refine ⟨rfl, ?_, hr, fun b2 o2 e => ?_⟩
  · rcases h.2 with ⟨e1, e2⟩ | ⟨g, cap, cur, e1, _, _, h1, _⟩
    · injection e1 with q1 q2 q3
      omega
    · injection e1 with q1 q2 q3
      omega
  · rcases h.2 with ⟨e1, _⟩ | ⟨g, cap, cur, e1, _, hh, _⟩
    · injection e1 with q1 q2 q3
      rw [q1] at e
      cases e
    · injection e1 with q1 q2 q3
      rw [q1] at e
      cases e
      exact lt_of_heap hh
theorem OwnLL.rd {w : World} {base : Nat} {v : Value} {L : List (List Int)} (h : OwnLL w base v L) : ∃ a c, v = .slice a L.length c ∧ RdLL w a L := by
  obtain ⟨xs, h1, h2, h3⟩ := h
  obtain ⟨a, c, rfl, hr, _⟩ := h1.rdB
  refine ⟨a, c, by rw [h2], fun i hi => ?_⟩
  have hi2 : i < xs.length := by rw [h2]; exact hi
  obtain ⟨b, off, ha, hlt, hc⟩ := hr i hi2
  obtain ⟨e1, e2, e3, e4⟩ := own_slice (h3 i hi2 hi)
  refine ⟨b, off, xs[i].a, xs[i].c, ha, hlt, ?_, e3, e2, e4⟩
  have := hc 0 (.slice xs[i].a xs[i].n xs[i].c) rfl
  rw [e1] at this
  have e5 : off + i * 1 + 0 = off + i := by omega
  rw [show encL.k = 1 from rfl, e5] at this
  exact this
theorem needL_snoc (L : List (List Int)) (ps : List Int) (p : Int) : needL L (ps ++ [p]) = addL (needL L ps) (L.getD p.toNat []) := by unfold needL; rw [List.foldl_append]; rfl
theorem needL_len (L : List (List Int)) (m : Nat) (hm : ∀ i, (L.getD i []).length ≤ m) : ∀ ps : List Int, (needL L ps).length ≤ m * ps.length := by
  intro ps
  have h : ∀ (ps : List Int) (s : List Int), (ps.foldl (fun out p => addL out (L.getD p.toNat [])) s).length ≤ s.length + m * ps.length := by
    intro ps
    induction ps with
    | nil => intro s; simp
    | cons p ps ih =>
      intro s
      rw [List.foldl_cons, List.length_cons, Nat.mul_succ]
      have h1 := ih (addL s (L.getD p.toNat []))
      have h2 := addL_len s (L.getD p.toNat [])
      have h3 := hm p.toNat
      omega
  have := h ps []
  simpa [needL] using this
set_option maxRecDepth 100000 in
set_option maxHeartbeats 8000000 in
theorem neededF_any (u : UntN) (ca : Option Addr) (cc : Nat) (ga : Option Addr) (gc : Nat) (L : List (List Int)) (va : Option Addr) (vc : Nat) (ps : List Int) (pa : Option Addr) (pc : Nat) (w : World) (hL : RdLL w va L) (hP : RdI w pa ps) (hps : ∀ p ∈ ps, 0 ≤ p ∧ p < L.length) (hlen : ps.length ≤ 1000) (hm : ∀ i, (L.getD i []).length ≤ 200) :
    Calls Tryz.prog 72 #[vFl u ca cc ga gc (.slice va L.length vc), .slice pa ps.length pc] w (OwnRet (needL L ps) w) := by
  have HL := hid hL; clear hL
  have HP := hid hP; clear hP
  have HPS := hid hps; clear hps
  have HM := hid (needL_len L 200 hm)
  have HM2 := hid hm; clear hm
  have HX0 := hid (heapn w (.cells #[.string u.cls, .string u.name, .int .i64 u.args, .int .i64 u.slots, .int .i64 u.frame, .slice ca u.code.length cc, .slice ga u.guards.length gc, .slice va L.length vc] 97) _ rfl)
  have HB0 := hid (bnew w (.cells #[.string u.cls, .string u.name, .int .i64 u.args, .int .i64 u.slots, .int .i64 u.frame, .slice ca u.code.length cc, .slice ga u.guards.length gc, .slice va L.length vc] 97))
  go_enter Tryz.func72, Tryz.ntmps72
  go_wp2
  go_loopg [5, 10] ps.length (fun gh s5 s10 wr => ∃ j : Nat, j ≤ ps.length ∧ gh = ps.length - j ∧ s10 = .int .i64 j ∧ Hid (OwnI wr (w.heap.size + 1) s5 (needL L (ps.take j)) ∧ Below w.heap.size w wr ∧ wr.heap[w.heap.size]? = some (.cells #[.string u.cls, .string u.name, .int .i64 u.args, .int .i64 u.slots, .int .i64 u.frame, .slice ca u.code.length cc, .slice ga u.guards.length gc, .slice va L.length vc] 97)))
  case atStart => exact ⟨0, Nat.zero_le _, rfl, rfl, hid ⟨World.ownsRow_nil _ _ _ _, HB0.out, HX0.out⟩⟩
  case round =>
    obtain ⟨j, hj, rfl, rfl, HQ⟩ := hrel
    by_cases hlj : j < ps.length
    · obtain ⟨b2, off, ha, hlt2, h0⟩ := (HP.out.below HQ.out.2.1) j hlj
      subst ha
      obtain ⟨hp0, hp1⟩ := HPS.out ps[j] (List.getElem_mem hlj)
      have HT := hid (needL_snoc L (ps.take j) ps[j])
      rw [← take_last hlj] at HT
      have HLN := hid (HM.out (ps.take j))
      have hlt := List.length_take_le j ps
      generalize ps[j] = p at *
      obtain ⟨k, rfl⟩ : ∃ k : Nat, p = (k : Int) := ⟨p.toNat, by omega⟩
      have hk : k < L.length := by omega
      have HLK := hid (HM2.out k)
      rw [show ((k : Int)).toNat = k from rfl, getD_in hk] at HT
      rw [getD_in hk] at HLK
      obtain ⟨b3, off3, ai, ci, rfl, _, hcw, hrw, _, hnw⟩ := HL.out k hk
      have hc3 := cell_later HQ.out.2.1 hcw
      have HOB := hid (own_ge HQ.out.1)
      have HAD := hid (add_any (w.heap.size + 1) u5 (needL L (ps.take j)) L[k] ai ci wr HQ.out.1 (hrw.below HQ.out.2.1) (by have h1 := HLN.out; have h2 := HLK.out; omega) (fun b o e e2 => by have h1 := hnw b o e; have h2 := HOB.out b e2.symm; omega) (by have := lt_of_heap HQ.out.2.2; omega))
      have k7 : wr.cell? ⟨w.heap.size, 7, none⟩ = some (.slice (some ⟨b3, off3, none⟩) L.length vc) := (cell_of_row _ _ 7 _ _ _ HQ.out.2.2).trans rfl
      have nj : (j : Int) < (ps.length : Int) := by omega
      clear hcw hrw hnw
      generalize L[k] = lk at *
      go_wp2_with (first
        | (go_at_call 74; (with_reducible refine HAD.out.mono ?_); rintro e w9 ⟨v3, rfl, ho3, hg3, _⟩; have HO3 := hid ho3; have HG3 := hid hg3; clear ho3 hg3))
      go_roundg (ps.length - (j + 1))
      case measure => omega
      case rel =>
        refine ⟨j + 1, by omega, rfl, by go_num, hid ⟨by rw [HT.out]; exact HO3.out, HQ.out.2.1.grown HG3.out HQ.out.2.1.size (fun r e => by have := HOB.out r e; omega), ?_⟩⟩
        exact (HG3.out.block _ (lt_of_heap HQ.out.2.2) (fun e => by have := HOB.out _ e.symm; omega)).trans HQ.out.2.2
    · obtain rfl : j = ps.length := by omega
      go_wp2
      go_ret
      exact ⟨HQ.out.2.1, _, rfl, by have := HQ.out.1; rw [List.take_length] at this; exact OwnI.mono this (by omega)⟩

abbrev oFl (u : UntN) (ca : Option Addr) (cc : Nat) (ga : Option Addr) (gc : Nat) (v : Value) : Obj := .cells #[.string u.cls, .string u.name, .int .i64 u.args, .int .i64 u.slots, .int .i64 u.frame, .slice ca u.code.length cc, .slice ga u.guards.length gc, v] 97
theorem add_one (base : Nat) (v : Value) (l : List Int) (x : Int) (pa : Nat) (w : World) (ho : OwnI w base v l) (hm : RdI w (some ⟨pa, 0, none⟩) [x]) (hlen : l.length + 1 ≤ 1000000) (hn : some pa ≠ v.ownBlock) (hb : base ≤ w.heap.size) :
    Calls Tryz.prog 74 #[v, .slice (some ⟨pa, 0, none⟩) 1 1] w (AddRet v base (addL l [x]) w) :=
  add_any base v l [x] (some ⟨pa, 0, none⟩) 1 w ho hm hlen (fun b o e => by cases e; exact hn) hb
def bsOne (u : UntN) (t : Nat) : List Int := if (!(endsB (u.code.getD t ins0)) && decide (t + 1 < u.code.length)) = true then [((t : Int) + 1)] else []
theorem bySelf_eq (u : UntN) (t : Nat) : bySelf u t = addL (bsOne u t) (placeO (u.code.getD t ins0)).toList := rfl
set_option maxRecDepth 100000 in
set_option maxHeartbeats 8000000 in
theorem byItself_any (u : UntN) (t : Nat) (ht : t < u.code.length) (hlen : u.code.length ≤ 600) (ca : Option Addr) (cc : Nat) (ga : Option Addr) (gc : Nat) (va : Option Addr) (vn vc : Nat) (w : World) (hm : RdC w ca u.code) :
    Calls Tryz.prog 73 #[vFl u ca cc ga gc (.slice va vn vc), .int .i64 t] w (OwnRet (bySelf u t) w) := by
  have HBS := hid (bySelf_eq u t)
  have HB1 : Hid (bsOne u t = if (!(endsB (u.code.getD t ins0)) && decide (t + 1 < u.code.length)) = true then [((t : Int) + 1)] else []) := hid rfl
  rw [getD_in ht] at HBS HB1
  have HB0 := hid (bnew w (oFl u ca cc ga gc (.slice va vn vc)))
  have HX0 := hid (heapn w (oFl u ca cc ga gc (.slice va vn vc)) _ rfl)
  obtain ⟨bc, oc, hca, hlc2, c0, c1, c2, c3⟩ := hm.below HB0.out t ht
  subst hca
  have HEN := hid (fun w => ends_any u.code[t] w)
  obtain ⟨k0, k1, k2, k3, k4, k5, k6, k7⟩ := box8 HX0.out
  have nt : (t : Int) < (u.code.length : Int) := by omega
  have nt1 : (t : Int) + 1 ≤ 600 := by omega
  have HM := hid hm; clear hm
  generalize u.code[t] = i at *
  go_enter Tryz.func73, Tryz.ntmps73
  go_upto_region 2 with fail
  obtain ⟨w1, hw1⟩ : ∃ w1, w1 = w.alloc (oFl u (some ⟨bc, oc, none⟩) cc ga gc (.slice va vn vc)) := ⟨_, rfl⟩
  rw [← hw1] at HB0 HX0
  rw [← hw1]
  have HS1 : Hid (w1.heap.size = w.heap.size + 1) := hid (by rw [hw1]; simp)
  clear hw1 k0 k1 k2 k3 k4 k5 k6 k7 c0 c1 c2 c3 hlc2
  obtain ⟨w2, hw2⟩ : ∃ w2, w2 = w1.alloc (.cells #[.int .i64 i.op, .int .i64 i.a, .int .i64 i.b, .int .i64 i.c] 85) := ⟨_, rfl⟩
  have HX2 : Hid (w2.heap[w.heap.size + 1]? = some (.cells #[.int .i64 i.op, .int .i64 i.a, .int .i64 i.b, .int .i64 i.c] 85)) := hid (by rw [hw2]; exact heapn _ _ _ HS1.out.symm)
  have HF2 : Hid (w2.heap[w.heap.size]? = some (oFl u (some ⟨bc, oc, none⟩) cc ga gc (.slice va vn vc))) := hid (by rw [hw2]; exact keepBox (bnew _ _) HX0.out)
  have HB2 : Hid (Below w.heap.size w w2) := hid (by rw [hw2]; exact HB0.out.step (bnew _ _))
  rw [← hw2]
  clear hw2 HX0 HB0
  obtain ⟨L1, hL1⟩ : ∃ L, L = bsOne u t := ⟨_, rfl⟩
  rw [← hL1] at HBS HB1
  clear hL1
  obtain ⟨q0, q1, q2, q3⟩ := box4 HX2.out
  have hsplit : (L1 = [] ∧ (endsB i = true ∨ (endsB i = false ∧ ¬ t + 1 < u.code.length))) ∨ (L1 = [((t : Int) + 1)] ∧ endsB i = false ∧ t + 1 < u.code.length) := by
    have h := HB1.out
    by_cases hl : t + 1 < u.code.length
    · cases he : endsB i with
      | true => rw [he] at h; exact .inl ⟨h, .inl rfl⟩
      | false => rw [he] at h; exact .inr ⟨by rw [h]; simp [hl], rfl, hl⟩
    · cases he : endsB i with
      | true => rw [he] at h; exact .inl ⟨h, .inl rfl⟩
      | false => rw [he] at h; exact .inl ⟨by rw [h]; simp [hl], .inr ⟨rfl, hl⟩⟩
  clear HB1
  have hl1 : L1.length ≤ 1 := by rcases hsplit with ⟨rfl, _⟩ | ⟨rfl, _⟩ <;> simp
  have HPLA := hid (fun (wc : World) (HW : Below w2.heap.size w2 wc) => place_any i.op (w.heap.size + 1) 0 wc (box4 (keepBox HW HX2.out)).1)
  rcases hsplit with ⟨hL, he | ⟨he, hl⟩⟩ | ⟨hL, he, hl⟩
  case' inl.inl =>
    rw [he] at HEN
    clear he
    go_upto_region 5 with (first
      | (go_at_call 97; (with_reducible refine (HEN.out _).mono ?_); rintro e wc ⟨rfl, hb⟩; have HW := hid hb; clear hb))
    have HO : Hid (OwnI wc (w.heap.size + 2) (.slice none 0 0) L1) := hid (by rw [hL]; exact World.ownsRow_nil _ _ _ _)
  case' inl.inr =>
    rw [he] at HEN
    clear he
    have hl2 : ¬ (t : Int) + 1 < (u.code.length : Int) := by omega
    go_upto_region 5 with (first
      | (go_at_call 97; (with_reducible refine (HEN.out _).mono ?_); rintro e wc ⟨rfl, hb⟩; obtain ⟨j0, j1, j2, j3, j4, j5, j6, j7⟩ := box8 (keepBox hb HF2.out); have HW := hid hb; clear hb))
    clear j0 j1 j2 j3 j4 j5 j6 j7
    have HO : Hid (OwnI wc (w.heap.size + 2) (.slice none 0 0) L1) := hid (by rw [hL]; exact World.ownsRow_nil _ _ _ _)
  case' inr =>
    rw [he] at HEN
    clear he
    have hl2 : (t : Int) + 1 < (u.code.length : Int) := by omega
    go_upto_region 5 with (first
      | (go_at_call 97; (with_reducible refine (HEN.out _).mono ?_); rintro e w3 ⟨rfl, hb⟩; obtain ⟨j0, j1, j2, j3, j4, j5, j6, j7⟩ := box8 (keepBox hb HF2.out); have HB3 := hid hb; have hsz := lt_of_heap (keepBox hb HX2.out); clear hb)
      | (at_builtin; refine wpList_append_ints _ rfl _ _ rfl (w.heap.size + 2) _ [] [((t : Int) + 1)] rfl (show OwnI _ (w.heap.size + 2) (.slice none 0 0) [] from World.ownsRow_nil _ _ _ _) (some ⟨_, 0, none⟩) 1 rfl (rd_one _ _ _) (by simp) (by simp; omega) ?_; intro v' wc hown' hgrow hnil))
    clear j0 j1 j2 j3 j4 j5 j6 j7
    have HO : Hid (OwnI wc (w.heap.size + 2) v' L1) := hid (by rw [hL]; exact hown')
    have HW : Hid (Below w2.heap.size w2 wc) := hid ((HB3.out.step (bnew _ _)).trans ⟨hgrow.os, hgrow.tape, hgrow.output, hgrow.size, fun k hk => hgrow.block k (by have := HB3.out.size; simp; omega) (show some k ≠ (Value.slice none 0 0).ownBlock from by simp [Value.ownBlock])⟩)
    clear hown' hgrow hnil
  all_goals
    have HBW := hid (HB2.out.step HW.out)
    obtain ⟨r0, r1, r2, r3⟩ := box4 (keepBox HW.out HX2.out)
    have HOB := hid (own_ge HO.out)
    have HSZ := hid (lt_of_heap (keepBox HW.out HX2.out))
    have HPL := hid (HPLA.out wc HW.out)
    clear HPLA
    have HPO : Hid (placeO i = if i.op == 24 then some i.a else if i.op == 25 || i.op == 32 then some i.b else none) := hid rfl
    have HPA : Hid (placeA i.op (w.heap.size + 1) 0 = if i.op == 24 then some ⟨w.heap.size + 1, 0 + 1, none⟩ else if i.op == 25 || i.op == 32 then some ⟨w.heap.size + 1, 0 + 2, none⟩ else none) := hid rfl
    obtain ⟨po, hpo⟩ : ∃ p, p = placeO i := ⟨_, rfl⟩
    obtain ⟨pA, hpA⟩ : ∃ p, p = placeA i.op (w.heap.size + 1) 0 := ⟨_, rfl⟩
    rw [← hpo] at HPO HBS
    rw [← hpA] at HPA HPL
    clear hpo hpA HEN
    have hsp : (pA = none ∧ po = none) ∨ ∃ o x, pA = some ⟨w.heap.size + 1, o, none⟩ ∧ po = some x ∧ wc.cell? ⟨w.heap.size + 1, o, none⟩ = some (.int .i64 x) := by
      rw [HPO.out, HPA.out]
      cases i.op == 24 with
      | true => exact .inr ⟨1, i.a, rfl, rfl, r1⟩
      | false =>
        cases (i.op == 25 || i.op == 32) with
        | true => exact .inr ⟨2, i.b, rfl, rfl, r2⟩
        | false => exact .inl ⟨rfl, rfl⟩
    clear HPO HPA r0 r1 r2 r3
    clear q0 q1 q2 q3
    rcases hsp with ⟨rfl, rfl⟩ | ⟨o, x, rfl, rfl, hx⟩
    · go_wp2_with (go_at_call 101; (with_reducible refine HPL.out.mono ?_); rintro e w' ⟨rfl, rfl⟩)
      go_ret
      exact ⟨HBW.out, _, rfl, by rw [HBS.out]; exact OwnI.mono HO.out (by omega)⟩
    · have HAD := hid (fun (wx : World) (pa : Nat) (hb : Below wc.heap.size wc wx) (hr : RdI wx (some ⟨pa, 0, none⟩) [x]) (hp : wc.heap.size ≤ pa) => add_one (w.heap.size + 2) _ L1 x pa wx (OwnI.later HO.out hb) hr (by omega) (own_new HO.out hp) (by have h1 := HSZ.out; have h2 := hb.size; omega))
      go_wp2_with (first
        | (go_at_call 101; (with_reducible refine HPL.out.mono ?_); rintro e w' ⟨rfl, rfl⟩)
        | (go_at_call 74; (with_reducible refine (HAD.out _ _ (bnew _ _) (rd_one _ _ _) (Nat.le_refl _)).mono ?_); rintro e w9 ⟨v3, rfl, ho3, hg3, _⟩; have HO3 := hid ho3; have HG3 := hid hg3; clear ho3 hg3))
      go_ret
      refine ⟨(HBW.out.step (bnew _ _)).grown HG3.out (by have := HBW.out.size; simp; omega) (fun r e => by have := HOB.out r e; omega), _, rfl, by rw [HBS.out]; exact OwnI.mono HO3.out (by omega)⟩

def nxOne (u : UntN) (t : Nat) : List Int := if (decide (0 ≤ guardL u t) && raisesB (u.code.getD t ins0)) = true then [(u.guards.getD (guardL u t).toNat grd0).at'] else []
theorem nextL_eq (u : UntN) (t : Nat) : nextL u t = addL (bySelf u t) (nxOne u t) := rfl
theorem bySelf_len (u : UntN) (t : Nat) : (bySelf u t).length ≤ 2 := by
  rw [bySelf_eq]
  have h1 := addL_len (bsOne u t) (placeO (u.code.getD t ins0)).toList
  have h2 : (bsOne u t).length ≤ 1 := by unfold bsOne; split <;> simp
  have h3 : (placeO (u.code.getD t ins0)).toList.length ≤ 1 := by cases placeO (u.code.getD t ins0) <;> simp
  omega
set_option maxRecDepth 100000 in
set_option maxHeartbeats 8000000 in
theorem nextF_any (u : UntN) (t : Nat) (ht : t < u.code.length) (hlen : u.code.length ≤ 600) (hlg : u.guards.length ≤ 1000000) (ca : Option Addr) (cc : Nat) (ga : Option Addr) (gc : Nat) (va : Option Addr) (vn vc : Nat) (w : World) (hm : UnM w u ca cc ga gc) :
    Calls Tryz.prog 106 #[vFl u ca cc ga gc (.slice va vn vc), .int .i64 t] w (OwnRet (nextL u t) w) := by
  have HBS := hid (nextL_eq u t)
  have HLN := hid (bySelf_len u t)
  have HB1 : Hid (nxOne u t = if (decide (0 ≤ guardL u t) && raisesB (u.code.getD t ins0)) = true then [(u.guards.getD (guardL u t).toNat grd0).at'] else []) := hid rfl
  rw [getD_in ht] at HB1
  have HGL := hid (And.intro (idxP_lt (guardIn t) u.guards).1 (idxP_lt (guardIn t) u.guards).2)
  have HGI : Hid (guardL u t = idxP (guardIn t) u.guards) := hid rfl
  rw [← HGI.out] at HGL
  clear HGI
  have HB0 := hid (bnew w (oFl u ca cc ga gc (.slice va vn vc)))
  have HX0 := hid (heapn w (oFl u ca cc ga gc (.slice va vn vc)) _ rfl)
  have HM := hid hm; clear hm
  have HBY := hid (fun w' (hb : Below w.heap.size w w') => byItself_any u t ht hlen ca cc ga gc va vn vc w' (HM.out.below hb).rc)
  have HGO := hid (fun w' (hb : Below w.heap.size w w') => guardOf_regs u t ca cc ga gc w' (HM.out.below hb).rg hlg)
  have HRA := hid (fun w' => raises_any u.code[t] w')
  have HCO := hid (fun w' (hb : Below w.heap.size w w') => (HM.out.below hb).rc t ht)
  have HGD := hid (fun w' (hb : Below w.heap.size w w') => (HM.out.below hb).rg)
  have nt : (t : Int) < (u.code.length : Int) := by omega
  obtain ⟨k0, k1, k2, k3, k4, k5, k6, k7⟩ := box8 HX0.out
  go_enter Tryz.func106, Tryz.ntmps106
  go_upto_region 2 with (first
    | (go_at_call 73; (with_reducible refine (HBY.out _ HB0.out).mono ?_); rintro e w1 ⟨hb, v1, rfl, ho⟩; have HB1' := hid (HB0.out.step hb); have HX1 := hid (keepBox hb HX0.out); have HO1 := hid ho; clear hb ho))
  clear k0 k1 k2 k3 k4 k5 k6 k7
  obtain ⟨k0, k1, k2, k3, k4, k5, k6, k7⟩ := box8 HX1.out
  go_upto_region 3 with (first
    | (go_at_call 102; (with_reducible refine (HGO.out _ HB1'.out).mono ?_); rintro e w2 ⟨rfl, hb⟩; have HB2 := hid (HB1'.out.step hb); have HX2 := hid (keepBox hb HX1.out); have HO2 := hid (OwnI.later HO1.out hb); clear hb))
  clear k0 k1 k2 k3 k4 k5 k6 k7
  obtain ⟨k0, k1, k2, k3, k4, k5, k6, k7⟩ := box8 HX2.out
  have HSB := hid (show w.heap.size ≤ (w.alloc (oFl u ca cc ga gc (.slice va vn vc))).heap.size by simp)
  have HGDL := hid (fun g (hg : g < u.guards.length) => (getD_in (d := grd0) hg))
  obtain ⟨L1, hL1⟩ : ∃ L, L = nxOne u t := ⟨_, rfl⟩
  rw [← hL1] at HBS HB1
  clear hL1
  obtain ⟨gl, hgl⟩ : ∃ g, g = guardL u t := ⟨_, rfl⟩
  rw [← hgl] at HGL HB1
  rw [← hgl]
  clear hgl HGO
  by_cases hg0 : (0 : Int) ≤ gl
  · obtain ⟨g, rfl⟩ : ∃ g : Nat, gl = (g : Int) := ⟨gl.toNat, by omega⟩
    have hgn : g < u.guards.length := by have := HGL.out.2; omega
    have hgi : (g : Int) < (u.guards.length : Int) := by omega
    obtain ⟨bc, oc, hca, _, c0, c1, c2, c3⟩ := HCO.out w2 HB2.out
    subst hca
    have dg : decide (0 ≤ (g : Int)) = true := decide_eq_true hg0
    rw [dg, Bool.true_and] at HB1
    rw [show ((g : Int)).toNat = g from rfl, HGDL.out g hgn] at HB1
    clear dg
    cases hr : raisesB u.code[t] with
    | false =>
      rw [hr] at HB1 HRA
      have HN : Hid (nextL u t = bySelf u t) := hid (by rw [HBS.out, HB1.out]; rfl)
      clear hr HBS HB1
      generalize u.code[t] = i at *
      go_wp2_with (go_at_call 103; (with_reducible refine (HRA.out _).mono ?_); rintro e w3 ⟨rfl, hb⟩; have HB3 := hid hb; clear hb)
      go_ret
      exact ⟨HB2.out.step HB3.out, _, rfl, by rw [HN.out]; exact OwnI.mono (OwnI.later HO2.out HB3.out) HSB.out⟩
    | true =>
      rw [hr] at HB1 HRA
      have HN : Hid (nextL u t = addL (bySelf u t) [u.guards[g].at']) := hid (by rw [HBS.out, HB1.out]; rfl)
      clear hr HBS HB1
      generalize u.code[t] = i at *
      have HGC := hid (fun w' (hb : Below w.heap.size w w') => HGD.out w' hb g hgn)
      obtain ⟨bg, og, hga, _, _, _, _⟩ := HGC.out w2 HB2.out
      subst hga
      have HGC2 := hid (fun w' (hb : Below w.heap.size w w') => (show w'.cell? ⟨bg, og + g * 3 + 2, none⟩ = some (.int .i64 u.guards[g].at') from by
        obtain ⟨b', o', e, _, _, _, h2⟩ := HGC.out w' hb
        cases e
        exact h2))
      generalize u.guards[g].at' = at0 at *
      have HAD := hid (fun (wx : World) (pa : Nat) (hb : Below w2.heap.size w2 wx) (hr : RdI wx (some ⟨pa, 0, none⟩) [at0]) (hp : w2.heap.size ≤ pa) => add_one _ v1 (bySelf u t) at0 pa wx (OwnI.later HO2.out hb) hr (by have := HLN.out; omega) (own_new HO2.out hp) (Nat.le_trans (by have := lt_of_heap HX2.out; simp; omega) hb.size))
      have HOB := hid (own_ge HO2.out)
      go_wp2_with (first
        | (go_at_call 103; (with_reducible refine (HRA.out _).mono ?_); rintro e w3 ⟨rfl, hb⟩; obtain ⟨j0, j1, j2, j3, j4, j5, j6, j7⟩ := box8 (keepBox hb HX2.out); have ga2 := HGC2.out w3 (HB2.out.step hb); have HB3 := hid hb; have hsz := hb.size; clear hb)
        | (go_at_call 74; (with_reducible refine (HAD.out _ _ (HB3.out.step (bnew _ _)) (rd_one _ _ _) hsz).mono ?_); rintro e w9 ⟨v3, rfl, ho3, hg3, _⟩; have HO3 := hid ho3; have HG3 := hid hg3; clear ho3 hg3))
      go_ret
      refine ⟨((HB2.out.step HB3.out).step (bnew _ _)).grown HG3.out (by have := HB2.out.size; simp; omega) (fun r e => by have h1 := HOB.out r e; have h2 := HSB.out; omega), _, rfl, by rw [HN.out]; exact OwnI.mono HO3.out HSB.out⟩
  · have dg : decide (0 ≤ gl) = false := decide_eq_false hg0
    rw [dg] at HB1
    have HN : Hid (nextL u t = bySelf u t) := hid (by rw [HBS.out, HB1.out]; rfl)
    clear dg HBS HB1
    go_wp2
    go_ret
    exact ⟨HB2.out, _, rfl, by rw [HN.out]; exact OwnI.mono HO2.out HSB.out⟩

/-- What is needed behind an instruction, with what it writes. -/
def behindL (u : UntN) (t : Nat) : List Int := if 0 ≤ writesI (u.code.getD t ins0) then addL (needL (liveL u) (bySelf u t)) [writesI (u.code.getD t ins0)] else needL (liveL u) (bySelf u t)
def pressTo (u : UntN) : Nat → Nat
  | 0 => 0
  | t + 1 => max (max (pressTo u t) ((liveL u).getD t []).length) (behindL u t).length
def pressN (u : UntN) : Nat := pressTo u u.code.length
theorem addL_mem {x : Int} : ∀ {more l : List Int}, x ∈ addL l more ↔ x ∈ l ∨ x ∈ more
  | [], l => by simp [addL]
  | y :: more, l => by
    have h : addL l (y :: more) = addL (if l.contains y = true then l else l ++ [y]) more := rfl
    rw [h, addL_mem, List.mem_cons]
    split
    · rename_i hc
      have hy : y ∈ l := List.contains_iff_mem.1 hc
      constructor
      · rintro (h | h)
        · exact .inl h
        · exact .inr (.inr h)
      · rintro (h | rfl | h)
        · exact .inl h
        · exact .inl hy
        · exact .inr h
    · simp only [List.mem_append, List.mem_singleton]
      constructor
      · rintro ((h | h) | h)
        · exact .inl h
        · exact .inr (.inl h)
        · exact .inr (.inr h)
      · rintro (h | h | h)
        · exact .inl (.inl h)
        · exact .inl (.inr h)
        · exact .inr h
/-- Where an instruction leads by itself lies in the unit. -/
theorem bySelf_in {u : UntN} (hp : plainB u = true) {t : Nat} (ht : t < u.code.length) : ∀ p ∈ bySelf u t, 0 ≤ p ∧ p < u.code.length := by
  intro p hp2
  rw [bySelf_eq, addL_mem, getD_in ht] at hp2
  rcases hp2 with h | h
  · unfold bsOne at h
    split at h
    · rename_i hc
      simp only [Bool.and_eq_true, decide_eq_true_eq] at hc
      rw [List.mem_singleton.1 h]
      omega
    · simp at h
  · cases hpo : placeO u.code[t] with
    | none => rw [hpo] at h; simp at h
    | some q =>
      rw [hpo] at h
      have e : p = q := by simpa using h
      rw [e]
      exact plain_place hp ht hpo
/-- The sets that are needed: so many, each of few. -/
theorem liveGo_good {u : UntN} : ∀ {f : Nat} {s : List (List Int)}, GoodL u s → GoodL u (liveGo u f s)
  | 0, s, h => h
  | f + 1, s, h => by
    have h1 := (liveOne_good (s := (s, false)) h (Nat.le_refl _)).1
    unfold liveGo
    split
    · exact liveGo_good h1
    · exact h1
theorem live_good (u : UntN) : GoodL u (liveL u) := liveGo_good (GoodL.first u)
theorem live_few {u : UntN} (hw : writB u = true) (t : Nat) : ((liveL u).getD t []).length ≤ 200 := by
  have hs := plain_slots (writ_plain hw)
  have h := live_good u
  have := sorted_len (a := 0) (n := 200) (h.so t) (fun x hx => by
    have h1 := h.un t x hx
    unfold univL at h1
    rw [List.mem_flatMap] at h1
    obtain ⟨y, hy, hx2⟩ := h1
    obtain ⟨k, hk, rfl⟩ := List.getElem_of_mem hy
    simp only [writB, Bool.and_eq_true, List.all_eq_true] at hw
    have h2 := hw.2 k (List.mem_range.2 hk)
    unfold writIns at h2
    simp only [Bool.and_eq_true, List.all_eq_true] at h2
    have h3 := h2.1.1.1.1.1.1 x (by rw [getD_in hk]; exact hx2)
    simp only [inN, Bool.and_eq_true, decide_eq_true_eq] at h3
    omega)
  omega
end Go.Proofs.YtgalekifgnecjaaGreat
