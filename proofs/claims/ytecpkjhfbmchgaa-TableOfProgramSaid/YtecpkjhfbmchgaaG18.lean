/- The contract of Take of package table. -/
import Derived.Test.YtecpkjhfbmchgaaG17
import Derived.Deep.DeepCutAuto
namespace Go.Proofs.Ytecpkjhfbmchgaa
open Go.RowKit

theorem BI.ne_bp {w : World} {g g' : Nat} {l : List Int} {L : List (Int × Int)} (h : BI w g l) (h' : BP 65 w g' L) : g ≠ g' := by
  obtain ⟨c, h, _⟩ := h
  obtain ⟨c', h', _⟩ := h'
  intro e
  subst e
  rw [h] at h'
  cases h'
theorem BP.ne_box {w : World} {g g' : Nat} {L : List (Int × Int)} {c : Array Value} (h' : BP 65 w g' L) (h : w.heap[g]? = some (.cells c 38 (0, 0))) : g ≠ g' := by
  obtain ⟨c', h', _⟩ := h'
  intro e
  subst e
  rw [h] at h'
  cases h'
theorem BI.ne_box {w : World} {g g' : Nat} {l : List Int} {c : Array Value} (h' : BI w g' l) (h : w.heap[g]? = some (.cells c 38 (0, 0))) : g ≠ g' := by
  obtain ⟨c', h', _⟩ := h'
  intro e
  subst e
  rw [h] at h'
  cases h'
theorem BI.but {M : Nat} {w w' : World} {g : Nat} {l : List Int} (h : BI w g l) (hb : But M w w') (hn : g ≠ M) : BI w' g l := h.keep (hb.block g h.lt hn)
theorem BP.but {M : Nat} {w w' : World} {g : Nat} {L : List (Int × Int)} (h : BP 65 w g L) (hb : But M w w') (hn : g ≠ M) : BP 65 w' g L := by
  have hl := h.lt
  obtain ⟨cur, hh, hc⟩ := h
  exact ⟨cur, (hb.block g hl hn).trans hh, hc⟩
theorem ownI_wr {w : World} {base : Nat} {v : Value} {L : List Int} (h : OwnI w base v L) : ∃ a c g, v = .slice a L.length c ∧ L.length ≤ c ∧ base ≤ g ∧ RdI w a L ∧ (L ≠ [] → a = some ⟨g, 0, none⟩ ∧ BI w g L) ∧ NewA base a := by
  obtain ⟨a, c, hv, hrd⟩ := h.rd
  rcases h.2 with ⟨rfl, h0⟩ | ⟨g, cap, cur, e, hg, hh, h1, h2, h3, h4⟩
  · injection hv with e1 e2 e3
    subst e1
    exact ⟨none, 0, base, by rw [h0], by omega, Nat.le_refl _, hrd, fun hne => absurd (List.length_eq_zero_iff.1 h0) hne, fun b off e => by cases e⟩
  · subst e
    injection hv with e1 e2 e3
    subst e1
    refine ⟨_, cap, g, rfl, h1, hg, hrd, fun hne => ?_, fun b off e => by cases e; exact hg⟩
    obtain ⟨g', c', e1, _, h6⟩ := BI.of_own h hne
    cases e1
    exact ⟨rfl, h6⟩
/-- The cells, of which the first k have been looked at. -/
def takK (r : Int) (C : List (Int × Int)) (k : Nat) : List (Int × Int) := (C.take k).map (takC r) ++ C.drop k
theorem takK_length (r : Int) (C : List (Int × Int)) (k : Nat) (h : k ≤ C.length) : (takK r C k).length = C.length := by
  unfold takK
  simp
  omega
theorem takK_at {r : Int} {C : List (Int × Int)} {k : Nat} (h : k < C.length) (h' : k < (takK r C k).length) : (takK r C k)[k] = C[k] := by
  have e : (takK r C k)[k]? = C[k]? := by
    unfold takK
    rw [List.getElem?_append_right (by simp; omega)]
    simp
    congr 1
    omega
  rw [List.getElem?_eq_getElem h', List.getElem?_eq_getElem h] at e
  exact Option.some.inj e
theorem takK_succ {r : Int} {C : List (Int × Int)} {k : Nat} (h : k < C.length) : takK r C (k + 1) = (takK r C k).set k (takC r C[k]) := by
  unfold takK
  rw [take_last h, List.map_append, List.drop_eq_getElem_cons h, List.set_append_right _ _ (by simp; omega)]
  have e : k - (List.map (takC r) (List.take k C)).length = 0 := by simp; omega
  rw [e, List.set_cons_zero]
  simp
theorem takK_end (r : Int) (C : List (Int × Int)) : takK r C C.length = C.map (takC r) := by
  unfold takK
  simp
theorem set_self {α : Type} (l : List α) (k : Nat) (h : k < l.length) : l.set k l[k] = l := by
  refine List.ext_getElem (by simp) fun i h1 h2 => ?_
  rw [List.getElem_set]
  split
  · rename_i e; subst e; rfl
  · rfl

set_option maxRecDepth 100000 in
set_option maxHeartbeats 4000000 in
theorem take_bad (L : Ld) (hf : Fit L) (r : Int) (sa : Option Addr) (sc : Nat) (ca : Option Addr) (cc : Nat) (w : World) (hm : LdM w L sa sc ca cc) (hE : hasE L r ≠ 0) :
    Calls Try.prog 16 #[vL L sa sc ca cc, .int .i64 r] w (LdRet2 (takV L r) (hasE L r) w) := by
  have HM := hid hm; clear hm
  have HB0 := hid (bnew w (.cells #[.int .i64 L.cols, .slice sa L.starts.length sc, .slice ca L.cells.length cc] 38))
  have HX2 := hid (keepBox (bnew (w.alloc (.cells #[.int .i64 L.cols, .slice sa L.starts.length sc, .slice ca L.cells.length cc] 38)) (.cells #[.int .i64 0, .slice none 0 0, .slice none 0 0] 38)) (heapn w (.cells #[.int .i64 L.cols, .slice sa L.starts.length sc, .slice ca L.cells.length cc] 38) _ rfl))
  have HX4 := hid (heapn (w.alloc (.cells #[.int .i64 L.cols, .slice sa L.starts.length sc, .slice ca L.cells.length cc] 38)) (.cells #[.int .i64 0, .slice none 0 0, .slice none 0 0] 38) _ rfl)
  have HB0 := hid (HB0.out.step (bnew (w.alloc (.cells #[.int .i64 L.cols, .slice sa L.starts.length sc, .slice ca L.cells.length cc] 38)) (.cells #[.int .i64 0, .slice none 0 0, .slice none 0 0] 38)))
  have hsl := hf.s
  have hcl := hf.c
  have hz1 : (w.alloc (.cells #[.int .i64 L.cols, .slice sa L.starts.length sc, .slice ca L.cells.length cc] 38)).heap.size = w.heap.size + 1 := by simp
  have HSZ : Hid (w.heap.size + 2 ≤ ((w.alloc (.cells #[.int .i64 L.cols, .slice sa L.starts.length sc, .slice ca L.cells.length cc] 38)).alloc (.cells #[.int .i64 0, .slice none 0 0, .slice none 0 0] 38)).heap.size) := hid (by simp)
  rw [hz1] at HX4
  have hv : takV L r = emptyL := by unfold takV; rw [if_neg hE]
  rw [hv]
  have HH := hid fun w h => has_any L hf r sa sc ca cc w h
  have hne : (hasE L r == 0) = false := by rw [beq_eq_false_iff_ne]; exact hE
  clear hv hE hf
  go_enter Try.func16, Try.ntmps16
  go_wp2_with fail
  generalize (w.alloc (.cells #[.int .i64 L.cols, .slice sa L.starts.length sc, .slice ca L.cells.length cc] 38)).alloc (.cells #[.int .i64 0, .slice none 0 0, .slice none 0 0] 38) = w1 at *
  obtain ⟨g2, hg2⟩ : ∃ g, g = w.heap.size := ⟨_, rfl⟩
  obtain ⟨g4, hg4⟩ : ∃ g, g = w.heap.size + 1 := ⟨_, rfl⟩
  rw [← hg2] at HX2
  rw [← hg4] at HX4
  rw [← hg2]
  rw [hg2, ← hg4, ← hg2]
  have HG := hid (And.intro hg2 hg4)
  clear hg2 hg4 hz1
  have HB1 := hid (Below.refl w1.heap.size w1)
  obtain ⟨k0, k1, k2, _, _, _⟩ := box3 HX2.out
  go_wp2_with (go_at_call 23; refine (HH.out _ (HM.out.below HB0.out)).mono ?_; rintro e w2 ⟨rfl, hb⟩; have HX4 := hid (keepBox hb HX4.out); have HB0 := hid (HB0.out.step hb); clear hb; obtain ⟨r0, r1, r2, _, _, _⟩ := box3 HX4.out)
  exact bodyPost_ret (v := .tuple #[.agg #[.int .i64 0, .slice none 0 0, .slice none 0 0], .int .i64 (hasE L r)]) (by simp [results, Try.results16, go_sem, r0, r1, r2]) rfl (LdRet2.empty _ (((HB0.out.setCell (p := ⟨g4, _, none⟩) (by have := HG.out; show _ ≤ g4; omega) _).setCell (p := ⟨g4, _, none⟩) (by have := HG.out; show _ ≤ g4; omega) _).setCell (p := ⟨g4, _, none⟩) (by have := HG.out; show _ ≤ g4; omega) _))

/-- A copy of numbers, of cells. -/
def SP (B : Nat) (S : List Int) (w : World) (a1 : Option Addr) (c1 gS : Nat) : Prop := S.length ≤ c1 ∧ B ≤ gS ∧ (S ≠ [] → a1 = some ⟨gS, 0, none⟩ ∧ BI w gS S) ∧ NewA B a1
def CP (B : Nat) (C : List (Int × Int)) (w : World) (a2 : Option Addr) (c2 gC : Nat) : Prop := C.length ≤ c2 ∧ B ≤ gC ∧ (C ≠ [] → a2 = some ⟨gC, 0, none⟩ ∧ BP 65 w gC C) ∧ NewA B a2
theorem SP.below {B : Nat} {S : List Int} {w w' : World} {a1 : Option Addr} {c1 gS : Nat} (h : SP B S w a1 c1 gS) (hb : Below w.heap.size w w') : SP B S w' a1 c1 gS :=
  ⟨h.1, h.2.1, fun hn => ⟨(h.2.2.1 hn).1, (h.2.2.1 hn).2.below hb⟩, h.2.2.2⟩
theorem CP.below {B : Nat} {C : List (Int × Int)} {w w' : World} {a2 : Option Addr} {c2 gC : Nat} (h : CP B C w a2 c2 gC) (hb : Below w.heap.size w w') : CP B C w' a2 c2 gC :=
  ⟨h.1, h.2.1, fun hn => ⟨(h.2.2.1 hn).1, (h.2.2.1 hn).2.below hb⟩, h.2.2.2⟩
theorem SP.but {B M : Nat} {S : List Int} {w w' : World} {a1 : Option Addr} {c1 gS : Nat} (h : SP B S w a1 c1 gS) (hb : But M w w') (hn : S ≠ [] → gS ≠ M) : SP B S w' a1 c1 gS :=
  ⟨h.1, h.2.1, fun hq => ⟨(h.2.2.1 hq).1, (h.2.2.1 hq).2.but hb (hn hq)⟩, h.2.2.2⟩
theorem CP.but {B M : Nat} {C : List (Int × Int)} {w w' : World} {a2 : Option Addr} {c2 gC : Nat} (h : CP B C w a2 c2 gC) (hb : But M w w') (hn : C ≠ [] → gC ≠ M) : CP B C w' a2 c2 gC :=
  ⟨h.1, h.2.1, fun hq => ⟨(h.2.2.1 hq).1, (h.2.2.1 hq).2.but hb (hn hq)⟩, h.2.2.2⟩
theorem SP.rd {B : Nat} {S : List Int} {w : World} {a1 : Option Addr} {c1 gS : Nat} (h : SP B S w a1 c1 gS) : RdI w a1 S := by
  by_cases hn : S = []
  · subst hn
    exact fun i hi => absurd hi (Nat.not_lt_zero _)
  · rw [(h.2.2.1 hn).1]
    exact (h.2.2.1 hn).2.rd
theorem CP.rd {B : Nat} {C : List (Int × Int)} {w : World} {a2 : Option Addr} {c2 gC : Nat} (h : CP B C w a2 c2 gC) : RdP w a2 C := by
  by_cases hn : C = []
  · subst hn
    exact RdP.nil _ _
  · rw [(h.2.2.1 hn).1]
    exact (h.2.2.1 hn).2.rd
/-- Copies of rows and cells, in a box of their own. -/
def Copied (L : Ld) (w2 : World) (s7 : Value) (wx : World) : Prop := ∃ a1 c1 gS a2 c2 gC g7, s7 = .pointer (some ⟨g7, 0, none⟩) ∧ wx.heap[g7]? = some (.cells #[.int .i64 L.cols, .slice a1 L.starts.length c1, .slice a2 L.cells.length c2] 38 (0, 0)) ∧ Below w2.heap.size w2 wx ∧ w2.heap.size ≤ g7 ∧ SP w2.heap.size L.starts wx a1 c1 gS ∧ CP w2.heap.size L.cells wx a2 c2 gC
theorem copied_new {L : Ld} {w2 w : World} {a1 a2 : Option Addr} {c1 c2 gS gC : Nat} (hb : Below w2.heap.size w2 w) (hs : SP w2.heap.size L.starts w a1 c1 gS) (hc : CP w2.heap.size L.cells w a2 c2 gC) :
    Copied L w2 (.pointer (some ⟨w.heap.size, 0, none⟩)) (w.alloc (.cells #[.int .i64 L.cols, .slice a1 L.starts.length c1, .slice a2 L.cells.length c2] 38)) :=
  ⟨a1, c1, gS, a2, c2, gC, _, rfl, heapn _ _ _ rfl, hb.step (bnew _ _), hb.size, hs.below (bnew _ _), hc.below (bnew _ _)⟩
theorem copied_set {L : Ld} {w2 w : World} {a1 a2 : Option Addr} {c1 c2 gS gC b : Nat} {x y z : Value} (hb : Below w2.heap.size w2 w) (hs : SP w2.heap.size L.starts w a1 c1 gS) (hc : CP w2.heap.size L.cells w a2 c2 gC)
    (h : w.heap[b]? = some (.cells #[x, y, z] 38 (0, 0))) (hg : w2.heap.size ≤ b) :
    Copied L w2 (.pointer (some ⟨b, 0, none⟩)) (((w.setCell ⟨b, 0, none⟩ (.int .i64 L.cols)).setCell ⟨b, 1, none⟩ (.slice a1 L.starts.length c1)).setCell ⟨b, 2, none⟩ (.slice a2 L.cells.length c2)) := by
  have hbut : But b w (((w.setCell ⟨b, 0, none⟩ (.int .i64 L.cols)).setCell ⟨b, 1, none⟩ (.slice a1 L.starts.length c1)).setCell ⟨b, 2, none⟩ (.slice a2 L.cells.length c2)) := (((But.refl _ _).set _ _).set _ _).set _ _
  have h0 : (w.setCell ⟨b, 0, none⟩ (.int .i64 L.cols)).heap[b]? = _ := heap_setCell_same _ _ _ _ _ _ h
  have h1 : ((w.setCell ⟨b, 0, none⟩ (.int .i64 L.cols)).setCell ⟨b, 1, none⟩ (.slice a1 L.starts.length c1)).heap[b]? = _ := heap_setCell_same _ _ _ _ _ _ h0
  have h2 : (((w.setCell ⟨b, 0, none⟩ (.int .i64 L.cols)).setCell ⟨b, 1, none⟩ (.slice a1 L.starts.length c1)).setCell ⟨b, 2, none⟩ (.slice a2 L.cells.length c2)).heap[b]? = _ := heap_setCell_same _ _ _ _ _ _ h1
  refine ⟨a1, c1, gS, a2, c2, gC, b, rfl, ?_, ((hb.setCell (p := ⟨b, 0, none⟩) hg _).setCell (p := ⟨b, 1, none⟩) hg _).setCell (p := ⟨b, 2, none⟩) hg _, hg, hs.but hbut (fun hn => (hs.2.2.1 hn).2.ne_box h |>.symm), hc.but hbut (fun hn => ((hc.2.2.1 hn).2.ne_box h).symm)⟩
  rw [h2]
  rfl

set_option maxRecDepth 100000 in
set_option maxHeartbeats 8000000 in
theorem take_ok (L : Ld) (hf : Fit L) (r : Nat) (sa : Option Addr) (sc : Nat) (ca : Option Addr) (cc : Nat) (w : World) (hm : LdM w L sa sc ca cc) (hE : hasE L r = 0) :
    Calls Try.prog 16 #[vL L sa sc ca cc, .int .i64 r] w (LdRet2 (takV L r) (hasE L r) w) := by
  have HM := hid hm; clear hm
  have HB0 := hid (bnew w (.cells #[.int .i64 L.cols, .slice sa L.starts.length sc, .slice ca L.cells.length cc] 38))
  have HX2 := hid (keepBox (bnew (w.alloc (.cells #[.int .i64 L.cols, .slice sa L.starts.length sc, .slice ca L.cells.length cc] 38)) (.cells #[.int .i64 0, .slice none 0 0, .slice none 0 0] 38)) (heapn w (.cells #[.int .i64 L.cols, .slice sa L.starts.length sc, .slice ca L.cells.length cc] 38) _ rfl))
  have HX4 := hid (heapn (w.alloc (.cells #[.int .i64 L.cols, .slice sa L.starts.length sc, .slice ca L.cells.length cc] 38)) (.cells #[.int .i64 0, .slice none 0 0, .slice none 0 0] 38) _ rfl)
  have HB0 := hid (HB0.out.step (bnew (w.alloc (.cells #[.int .i64 L.cols, .slice sa L.starts.length sc, .slice ca L.cells.length cc] 38)) (.cells #[.int .i64 0, .slice none 0 0, .slice none 0 0] 38)))
  have hsl := hf.s
  have hcl := hf.c
  have hz1 : (w.alloc (.cells #[.int .i64 L.cols, .slice sa L.starts.length sc, .slice ca L.cells.length cc] 38)).heap.size = w.heap.size + 1 := by simp
  have HSZ : Hid (w.heap.size + 2 ≤ ((w.alloc (.cells #[.int .i64 L.cols, .slice sa L.starts.length sc, .slice ca L.cells.length cc] 38)).alloc (.cells #[.int .i64 0, .slice none 0 0, .slice none 0 0] 38)).heap.size) := hid (by simp)
  rw [hz1] at HX4
  have hv : takV L r = ⟨L.cols, L.starts.set r (-1), L.cells.map (takC r)⟩ := by unfold takV; rw [if_pos hE]; rfl
  rw [hv, hE]
  have HH := hid (fun (w : World) (h : LdM w L sa sc ca cc) => (by have := has_any L hf r sa sc ca cc w h; rw [hE] at this; exact this : Calls Try.prog 23 #[vL L sa sc ca cc, .int .i64 r] w (RetB (.int .i64 0) w)))
  have hr : r < L.starts.length := by
    unfold hasE at hE
    split at hE
    · split at hE
      · omega
      · cases hE
    · rename_i h; exact absurd hE h
  clear hv hE hf
  go_enter Try.func16, Try.ntmps16
  go_wp2_with fail
  generalize (w.alloc (.cells #[.int .i64 L.cols, .slice sa L.starts.length sc, .slice ca L.cells.length cc] 38)).alloc (.cells #[.int .i64 0, .slice none 0 0, .slice none 0 0] 38) = w1 at *
  obtain ⟨g2, hg2⟩ : ∃ g, g = w.heap.size := ⟨_, rfl⟩
  obtain ⟨g4, hg4⟩ : ∃ g, g = w.heap.size + 1 := ⟨_, rfl⟩
  rw [← hg2] at HX2
  rw [← hg4] at HX4
  rw [← hg2]
  rw [hg2, ← hg4, ← hg2]
  have HG := hid (And.intro hg2 hg4)
  clear hg2 hg4 hz1
  have HB1 := hid (Below.refl w1.heap.size w1)
  obtain ⟨k0, k1, k2, _, _, _⟩ := box3 HX2.out
  go_upto_region 4 with (go_at_call 23; refine (HH.out _ (HM.out.below HB0.out)).mono ?_; rintro e w2 ⟨rfl, hb⟩; have HX2 := hid (keepBox hb HX2.out); have HX4 := hid (keepBox hb HX4.out); have HB0 := hid (HB0.out.step hb); have HB1 := hid (HB1.out.step hb); clear hb)
  have HM2 := hid (HM.out.below HB0.out)
  have hb := bdrew w2
  have T : Hid True := trivial
  clear k0 k1 k2
  go_cut [7] (fun s7 wx => Copied L w2 s7 wx)
  case rest =>
    obtain ⟨a1, c1, gS, a2, c2, gC, g7, rfl, hX7, hB7, hg7, hS, hC⟩ := hcut
    have HN := hid hg7
    have HX7 := hid hX7
    have HB7 := hid hB7
    have HSP := hid hS
    have HCP := hid hC
    have hne : L.starts ≠ [] := by intro e; rw [e] at hr; simp at hr
    have hav := (hS.2.2.1 hne).1
    have hbi := (hS.2.2.1 hne).2
    have HSZ2 := hid (Nat.le_trans HSZ.out HB1.out.size)
    have HX44 := hid (keepBox HB7.out HX4.out)
    have hgs : gS ≠ g7 := fun e => hbi.ne_box hX7 e.symm
    subst hav
    obtain ⟨k0, k1, k2, _, _, _⟩ := box3 HX7.out
    have c1 := hbi.at hr
    have c2' := hbi.frozen r
    have nr : (r : Int) < (L.starts.length : Int) := by omega
    generalize L.starts[r] = x0 at c1
    have HBI := hid hbi
    have HGS := hid hgs
    clear hbi hgs hX7 hB7 hg7 hS hC hne
    obtain ⟨wq, hwq⟩ : ∃ wq, wq = wc := ⟨_, rfl⟩
    rw [← hwq] at k0 k1 k2 c1 c2' HX7 HB7 HSP HCP HBI HX44
    rw [← hwq]
    clear hwq
    go_upto_region 6 with fail
    have hbs : But gS wq (wq.setCell ⟨gS, r, none⟩ (.int .i64 (-1))) := (But.refl _ _).set _ _
    have hBIs := HBI.out.set hr (-1)
    have hB7s : Below w2.heap.size w2 (wq.setCell ⟨gS, r, none⟩ (.int .i64 (-1))) := HB7.out.setCell (p := ⟨gS, r, none⟩) HSP.out.2.1 _
    have hX7s := (hbs.block g7 (lt_of_heap HX7.out) (fun e => HGS.out e.symm)).trans HX7.out
    have hgg : g4 < w2.heap.size := by have := HG.out.2; have := HSZ2.out; omega
    have hX4s := (hbs.block g4 (lt_of_heap HX44.out) (by have := HSP.out.2.1; omega)).trans HX44.out
    have hCPs := HCP.out.but hbs (fun hn => fun e => HBI.out.ne_bp (HCP.out.2.2.1 hn).2 e.symm)
    have hnc : L.cells ≠ [] → gC ≠ g7 := fun hn e => (hCPs.2.2.1 hn).2.ne_box hX7s e.symm
    have hncs : L.cells ≠ [] → gS ≠ gC := fun hn => hBIs.ne_bp (hCPs.2.2.1 hn).2
    generalize wq.setCell ⟨gS, r, none⟩ (.int .i64 (-1)) = ws at *
    have HBI := hid hBIs
    have HB7 := hid hB7s
    have HX7 := hid hX7s
    have HX44 := hid hX4s
    have HCP := hid hCPs
    have HNC := hid hnc
    have HNCS := hid hncs
    have HGG := hid hgg
    obtain ⟨k0, k1, k2, _, _, _⟩ := box3 HX7.out
    clear hbs hBIs hB7s hX7s hX4s hCPs hnc hncs hgg c1 c2'
    go_wp2
    clear k0 k1 k2
    go_loopg [32] L.cells.length (fun gh s32 wr => ∃ k : Nat, k ≤ L.cells.length ∧ gh = L.cells.length - k ∧ s32 = .int .i64 k ∧ Hid ((L.cells ≠ [] → BP 65 wr gC (takK r L.cells k)) ∧ But gC ws wr ∧ (L.cells = [] → wr = ws)))
    case atStart => exact ⟨0, Nat.zero_le _, rfl, rfl, hid ⟨fun hn => (HCP.out.2.2.1 hn).2, But.refl _ _, fun _ => rfl⟩⟩
    case round =>
      obtain ⟨k, hk, rfl, rfl, HK⟩ := hrel
      by_cases hlt : k < L.cells.length
      · have hn : L.cells ≠ [] := by intro e; rw [e] at hlt; simp at hlt
        have n1 : (k : Int) < (L.cells.length : Int) := by omega
        have hX7 := (HK.out.2.1.block g7 (lt_of_heap HX7.out) (fun e => HNC.out hn e.symm)).trans HX7.out
        have hav := (HCP.out.2.2.1 hn).1
        have HX := hid hX7
        obtain ⟨k0, k1, k2, _, _, _⟩ := box3 HX.out
        have hll := takK_length (r : Int) L.cells k hk
        have hlt' : k < (takK (r : Int) L.cells k).length := by rw [hll]; exact hlt
        have hbp := HK.out.1 hn
        have hkd := kind_any (takK r L.cells k) a2 c2 k r wr (by rw [hav]; exact hbp.rd) (by rw [hll]; omega) (by omega)
        rw [hll] at hkd
        have hko := kind_ours (C := takK r L.cells k) (p := k) (r := r)
        rw [getD_in hlt', takK_at hlt hlt'] at hko
        have hat := hbp.at hlt'
        rw [takK_at hlt hlt'] at hat
        have hf0 := hbp.frozen (k * 2)
        have hf1 := hbp.frozen (k * 2 + 1)
        have hsucc := takK_succ (r := (r : Int)) hlt
        obtain ⟨x, hx⟩ : ∃ x, x = L.cells[k] := ⟨_, rfl⟩
        rw [← hx] at hko hat hsucc
        have HXX := hid hx
        obtain ⟨x, y⟩ := x
        obtain ⟨t1, t2⟩ := hat
        simp only at t1 t2 hko
        have HKD := hid hkd
        have HSU := hid hsucc
        have HBP := hid hbp
        have HLT := hid hlt'
        have HNE := hid hn
        clear hx hkd hsucc hbp hlt' hX7 hll
        subst hav
        have hgc : gC ≠ g7 := HNC.out hn
        have HGC := hid hgc
        clear hn hgc
        generalize kindV (takK (r : Int) L.cells k) k r = kv at *
        by_cases hxr : x = r
        · have hkv : (kv == 1) = true := by rw [hko]; exact decide_eq_true hxr
          have HXR := hid hxr
          clear hko hxr
          go_upto_region 10 with (go_at_call 33; (with_reducible refine HKD.out.mono ?_); rintro e w9 ⟨rfl, hb⟩; have HB9 := hid hb; have k0 := cell_later hb k0; have k1 := cell_later hb k1; have k2 := cell_later hb k2; have t1 := cell_later hb t1; have t2 := cell_later hb t2; have f1 := (HBP.out.below hb).frozen (k * 2); have f2 := (HBP.out.below hb).frozen (k * 2 + 1); clear hb)
          have K2 := hid k2
          have HL7 := hid (show g7 < w9.heap.size from Nat.lt_of_lt_of_le (lt_of_heap HX.out) HB9.out.size)
          have hb := bdrew w9
          clear k0 k1 k2
          go_region_held3 (fun w' => w'.cell? ⟨g7, 2, none⟩ = some (.slice (some ⟨gC, 0, none⟩) L.cells.length c2))
            (first | exact K2.out | exact cell_later hb K2.out | exact (But.cell (M := gC) (p := ⟨g7, 2, none⟩) (by repeat (first | exact But.refl _ _ | refine But.set ?_ _ _ | refine But.drew ?_)) (Nat.lt_of_lt_of_le HL7.out hb.size) (fun e => HGC.out e.symm)).trans (cell_later hb K2.out))
            ((go_at_call 34; refine (none_any _).mono ?_; rintro e w8 ⟨rfl, hbb⟩; have t1 := cell_later hbb t1; have t2 := cell_later hbb t2; have f1 := ((HBP.out.below HB9.out).below (hb.step hbb)).frozen (k * 2); have f2 := ((HBP.out.below HB9.out).below (hb.step hbb)).frozen (k * 2 + 1); have hb := hb.step hbb; clear hbb))
          have HB8 := hid (HB9.out.step hb)
          go_wp2
          go_roundg (L.cells.length - (k + 1))
          case measure => omega
          case rel =>
            refine ⟨k + 1, by omega, rfl, by go_num, hid ⟨fun _ => ?_, (((HK.out.2.1.trans (But.of_below HB8.out)).set _ _).set _ _), fun h => absurd h HNE.out⟩⟩
            have e : takC (r : Int) (x, y) = (-1, 0) := by unfold takC; rw [if_pos HXR.out]
            rw [HSU.out, e]
            exact (HBP.out.below HB8.out).set HLT.out (-1) 0
        · have hkv : (kv == 1) = false := by rw [hko]; exact decide_eq_false hxr
          have HXR := hid hxr
          clear hko hxr
          go_wp2_with (go_at_call 33; (with_reducible refine HKD.out.mono ?_); rintro e w9 ⟨rfl, hb⟩; have HB9 := hid hb; clear hb)
          go_roundg (L.cells.length - (k + 1))
          case measure => omega
          case rel =>
            refine ⟨k + 1, by omega, rfl, by go_num, hid ⟨fun _ => ?_, HK.out.2.1.trans (But.of_below HB9.out), fun h => absurd h HNE.out⟩⟩
            have e : takK (r : Int) L.cells (k + 1) = takK r L.cells k := by
              rw [HSU.out]
              unfold takC
              rw [if_neg HXR.out, HXX.out, ← takK_at (r := (r : Int)) hlt HLT.out]
              exact set_self _ _ _
            rw [e]
            exact HBP.out.below HB9.out
      · have hkl : k = L.cells.length := by omega
        subst hkl
        have hX7 : wr.heap[g7]? = some (.cells #[.int .i64 L.cols, .slice (some ⟨gS, 0, none⟩) L.starts.length c1, .slice a2 L.cells.length c2] 38 (0, 0)) := by
          by_cases hn : L.cells = []
          · rw [HK.out.2.2 hn]; exact HX7.out
          · exact (HK.out.2.1.block g7 (lt_of_heap HX7.out) (fun e => HNC.out hn e.symm)).trans HX7.out
        have hX4 := (HK.out.2.1.block g4 (lt_of_heap HX44.out) (by have := HCP.out.2.1; have := HGG.out; omega)).trans HX44.out
        have hrs : BI wr gS (L.starts.set r (-1)) := by
          by_cases hn : L.cells = []
          · rw [HK.out.2.2 hn]; exact HBI.out
          · exact HBI.out.but HK.out.2.1 (HNCS.out hn)
        have HRS := hid hrs
        have HBW : Hid (Below w2.heap.size w2 wr) := hid (HB7.out.trans (HK.out.2.1.below HCP.out.2.1 HB7.out.size))
        have hrc : RdP wr a2 (L.cells.map (takC r)) := by
          by_cases hn : L.cells = []
          · rw [hn]; exact RdP.nil _ _
          · rw [(HCP.out.2.2.1 hn).1, ← takK_end]
            exact (HK.out.1 hn).rd
        have HRC := hid hrc
        obtain ⟨k0, k1, k2, _, _, _⟩ := box3 hX7
        obtain ⟨r0, r1, r2, z0, z1, z2⟩ := box3 hX4
        clear hX7 hX4 hrs hrc
        go_wp2
        refine bodyPost_ret (v := .tuple #[.agg #[.int .i64 L.cols, .slice (some ⟨gS, 0, none⟩) L.starts.length c1, .slice a2 L.cells.length c2], .int .i64 0]) (by simp [results, Try.results16, go_sem, r0, r1, r2]) rfl ?_
        have hbW : But g4 wr (((wr.setCell ⟨g4, 0, none⟩ (.int .i64 L.cols)).setCell ⟨g4, 1, none⟩ (.slice (some ⟨gS, 0, none⟩) L.starts.length c1)).setCell ⟨g4, 2, none⟩ (.slice a2 L.cells.length c2)) := (((But.refl _ _).set _ _).set _ _).set _ _
        have hg4 : w.heap.size ≤ g4 := by have := HG.out.2; omega
        refine ⟨HB0.out.trans ((HBW.out.mono HB0.out.size).trans (hbW.below hg4 (Nat.le_trans HB0.out.size HBW.out.size))), some ⟨gS, 0, none⟩, c1, a2, c2, ?_, ?_⟩
        · unfold vL
          rw [List.length_set, List.length_map]
        · refine ⟨(HRS.out.but hbW (by have := HSP.out.2.1; have := HGG.out; omega)).rd, HRC.out.but hbW fun b off e => ?_, by show (L.starts.set r (-1)).length ≤ c1; rw [List.length_set]; exact HSP.out.1, by show (L.cells.map (takC r)).length ≤ c2; rw [List.length_map]; exact HCP.out.1⟩
          have := HCP.out.2.2.2 b off e
          have := HGG.out
          omega
  go_region_held3 (fun w' => w'.cell? ⟨g2, 0, none⟩ = some (.int .i64 L.cols) ∧ w'.cell? ⟨g2, 1, none⟩ = some (.slice sa L.starts.length sc) ∧ w'.cell? ⟨g2, 2, none⟩ = some (.slice ca L.cells.length cc))
    (first | exact ⟨(box3 HX2.out).1, (box3 HX2.out).2.1, (box3 HX2.out).2.2.1⟩ | exact ⟨cell_later hb (box3 HX2.out).1, cell_later hb (box3 HX2.out).2.1, cell_later hb (box3 HX2.out).2.2.1⟩ | exact ⟨cell_later (bmore hb _) (box3 HX2.out).1, cell_later (bmore hb _) (box3 HX2.out).2.1, cell_later (bmore hb _) (box3 HX2.out).2.2.1⟩ | exact ⟨cell_later (by repeat (first | exact hb | refine bmore ?_ _ | refine Below.setCell ?_ (by simp <;> omega) _ | refine Below.drew ?_)) (box3 HX2.out).1, cell_later (by repeat (first | exact hb | refine bmore ?_ _ | refine Below.setCell ?_ (by simp <;> omega) _ | refine Below.drew ?_)) (box3 HX2.out).2.1, cell_later (by repeat (first | exact hb | refine bmore ?_ _ | refine Below.setCell ?_ (by simp <;> omega) _ | refine Below.drew ?_)) (box3 HX2.out).2.2.1⟩ | go_keep)
    ((first
      | (go_at_call 19; (with_reducible refine (clone62 L.starts sa sc _ (HM2.out.rs.below (by first | exact hb | exact bmore hb _ | exact (bnew w2 _).drew)) (by omega)).mono ?_); rintro e w9 ⟨hbb, v1, rfl, hown⟩; obtain ⟨a1, c1, gS, rfl, hh⟩ := ownI_wr (hown.mono (base' := w2.heap.size) (by first | exact hb.size | exact (bmore hb _).size | exact (bnew w2 _).drew.size)); have HI := hid (show SP w2.heap.size L.starts w9 a1 c1 gS from ⟨hh.1, hh.2.1, hh.2.2.2⟩); have HIB := hid hbb; (first | (have T := hid (keepBox (w := (w2.alloc (.cells #[.int .i64 0, .slice none 0 0, .slice none 0 0] 38)).drew) hbb (heapn w2 (.cells #[.int .i64 0, .slice none 0 0, .slice none 0 0] 38) _ rfl))) | (have T := hid (keepBox (w := w8.alloc (.cells #[.int .i64 0, .slice none 0 0, .slice none 0 0] 38)) hbb (heapn w8 (.cells #[.int .i64 0, .slice none 0 0, .slice none 0 0] 38) _ rfl))) | (have T := hid (keepBox hbb T.out)) | skip); (first | (have tt := box3 T.out; obtain ⟨t0, t1, t2, y0, y1, y2⟩ := tt) | skip); have hb := Below.step (by first | exact hb | exact bmore hb _ | exact (bnew w2 _).drew) hbb; have hs9 := hb.size; clear hbb hown hh)
      | (go_at_call 32; (with_reducible refine (clone63 L.cells ca cc _ (HM2.out.rc.below (by first | exact hb | exact bmore hb _ | exact (bnew w2 _).drew)) (by omega)).mono ?_); rintro e w8 ⟨hbb, v2, rfl, hown⟩; obtain ⟨a2, c2, gC, rfl, hh⟩ := ownP_wr (own_base (base' := w2.heap.size) hown (by first | exact hb.size | exact (bmore hb _).size | exact (bnew w2 _).drew.size)); have HP := hid (show CP w2.heap.size L.cells w8 a2 c2 gC from ⟨hh.1, hh.2.1, hh.2.2.2⟩); have HPB := hid hbb; (first | (have T := hid (keepBox (w := (w2.alloc (.cells #[.int .i64 0, .slice none 0 0, .slice none 0 0] 38)).drew) hbb (heapn w2 (.cells #[.int .i64 0, .slice none 0 0, .slice none 0 0] 38) _ rfl))) | (have T := hid (keepBox (w := w9.alloc (.cells #[.int .i64 0, .slice none 0 0, .slice none 0 0] 38)) hbb (heapn w9 (.cells #[.int .i64 0, .slice none 0 0, .slice none 0 0] 38) _ rfl))) | (have T := hid (keepBox hbb T.out)) | skip); (first | (have tt := box3 T.out; obtain ⟨t0, t1, t2, y0, y1, y2⟩ := tt) | skip); have hb := Below.step (by first | exact hb | exact bmore hb _ | exact (bnew w2 _).drew) hbb; have hs8 := hb.size; clear hbb hown hh)))
  all_goals
    go_wp2_with fail
    go_meet
    first
      | exact copied_new hb (HI.out.below HPB.out) HP.out
      | exact copied_set hb (HI.out.below (Below.step (bnew _ _) HPB.out)) HP.out T.out hs9
      | exact copied_set hb (HI.out.below HPB.out) HP.out T.out (Nat.le_refl _)

theorem Take_any (L : Ld) (hf : Fit L) (r : Int) (sa : Option Addr) (sc : Nat) (ca : Option Addr) (cc : Nat) (w : World) (hm : LdM w L sa sc ca cc) :
    Calls Try.prog 16 #[vL L sa sc ca cc, .int .i64 r] w (LdRet2 (takV L r) (hasE L r) w) := by
  by_cases hE : hasE L r = 0
  · have h0 : 0 ≤ r := by
      unfold hasE at hE
      split at hE
      · split at hE
        · omega
        · cases hE
      · rename_i h; exact absurd hE h
    obtain ⟨r, rfl⟩ : ∃ k : Nat, r = (k : Int) := ⟨r.toNat, by omega⟩
    exact take_ok L hf r sa sc ca cc w hm hE
  · exact take_bad L hf r sa sc ca cc w hm hE
end Go.Proofs.Ytecpkjhfbmchgaa
