/- needed of package core: what is needed ahead of an instruction, by what is needed ahead of others. -/
import Derived.Test.YtgalekifgnecjaaGreatM3
import Derived.Carry
namespace Go.Proofs.YtgalekifgnecjaaGreat
open Go.RowKit Go.Shelf
attribute [local go_sem] Oper.semAt_some
theorem keepM_map {W W' : World} {b : Nat} {S : List Int} (hs : SetAt W b S) (hg : W.grownBy W' (some b)) : KeepM (MiS fun _ => False) (WFS fun _ => False) W W' := by
  refine ⟨fun k hk => hk.elim, hg.os, hg.tape, hg.output, hg.size, fun k o m hk ho => ⟨(hg.block k (lt_of_heap hk) (fun e => ?_)).trans hk, m⟩⟩
  cases e
  obtain ⟨es, clock, hb, _⟩ := hs.own
  rw [hb] at hk
  cases hk
  cases ho
/-- One lead. -/
def ndOne (u : UntN) (L : List (List Int)) (t : Nat) (s : List Int) (x : Int × Int) : List Int := ((L.getD x.1.toNat []).filter fun n => x.2 == 2 || n != writesI (u.code.getD t ins0)).foldl (fun s n => insS n s) s
theorem nowS_eq (u : UntN) (L : List (List Int)) (t : Nat) : nowS u L t = (readsL (u.code.getD t ins0)).foldl (fun s n => insS n s) ((leadsL u t).foldl (ndOne u L t) []) := rfl
/-- Between two leads. -/
structure NdI (u : UntN) (L : List (List Int)) (t bo : Nat) (W0 : World) (pre : List (LdX u t)) (W : World) : Prop where
  g : W0.grownBy W (some bo)
  s : SetAt W bo ((ldV pre).foldl (ndOne u L t) [])
/-- Within the loop over a set. -/
structure NdS (bo r : Nat) (v : Value) (A S0 : List Int) (c : Int → Bool) (W : World) (S1 L1 : List Int) (wr : World) : Prop where
  g : W.grownBy wr (some bo)
  s : SetAt wr bo S1
  rng : RngV wr r v A L1
  mem : ∀ x, x ∈ S1 ↔ x ∈ S0 ∨ (x ∈ A ∧ x ∉ L1 ∧ c x = true)
theorem NdS.put {bo r : Nat} {v : Value} {A S0 S1 L1 : List Int} {c : Int → Bool} {W wr w6 : World} {x : Int} (h : NdS bo r v A S0 c W S1 L1 wr) (hx : x ∈ L1) (hc : c x = true) (hg : W.grownBy w6 (some bo)) (hs : SetAt w6 bo (insS x S1)) (hr : RngV w6 r v A (L1.filter (· != x))) : NdS bo r v A S0 c W (insS x S1) (L1.filter (· != x)) w6 := by
  refine ⟨hg, hs, hr, fun y => ?_⟩
  rw [mem_insS, h.mem y, List.mem_filter]
  by_cases e : y = x
  · subst e
    simp [h.rng.sub y hx, hc]
  · simp [e]
theorem NdS.skip {bo r : Nat} {v : Value} {A S0 S1 L1 : List Int} {c : Int → Bool} {W wr w6 : World} {x : Int} (h : NdS bo r v A S0 c W S1 L1 wr) (hx : x ∈ L1) (hc : c x = false) (hg : W.grownBy w6 (some bo)) (hs : SetAt w6 bo S1) (hr : RngV w6 r v A (L1.filter (· != x))) : NdS bo r v A S0 c W S1 (L1.filter (· != x)) w6 := by
  refine ⟨hg, hs, hr, fun y => ?_⟩
  rw [h.mem y, List.mem_filter]
  by_cases e : y = x
  · subst e
    simp [hx, hc]
  · simp [e]
theorem leaves_mark1 {F : Fence} {n : Nat} {P : Program} {fn : Func} {tmps : Array Value} {R : Ending → World → Prop} {D : Nat} {W : World} (hd : W.heap[D]? = some (.deferred (some []))) (h : LeavesIn F n P fn tmps R [] .returning (W.putObj D (.deferred none))) : LeavesInM F n P fn tmps R [markD D] .returning W :=
  ⟨by simp, .inl ⟨D, W.putObj D (.deferred none), rfl, run_takeDeferred hd, h⟩⟩
set_option maxRecDepth 100000 in
set_option maxHeartbeats 8000000 in
theorem needed_in (u : UntN) (t : Nat) (ht : t < u.code.length) (hlc : u.code.length ≤ 1000000) (hlg : u.guards.length ≤ 1000000) (ca : Option Addr) (cc : Nat) (ga : Option Addr) (gc : Nat) (L : List (List Int)) (aa : Option Addr) (ac : Nat) (w : World) (hm : UnM w u ca cc ga gc) (hL : RdS w aa L) (hlen : L.length = u.code.length)
    (hin : ∀ x, x ∈ leadsL u t → 0 ≤ x.1 ∧ x.1 < u.code.length) (hr : ∀ x ∈ readsL u.code[t], 0 ≤ x ∧ x < 1000000) :
    CallsIn Fence.wide 20 Tryz.prog 175 #[vU u ca cc ga gc, .int .i64 t, .slice aa L.length ac] w fun e w' => Below w.heap.size w w' ∧ ∃ b, e = .returned (.map (some b)) ∧ SetAt w' b (nowS u L t) ∧ w.heap.size ≤ b := by
  have HM := hid hm; clear hm
  have HL := hid hL; clear hL
  have HN := hid hlen; clear hlen
  have HIN := hid hin; clear hin
  have HRB := hid hr; clear hr
  obtain ⟨bu, hbu⟩ : ∃ b, b = w.heap.size := ⟨_, rfl⟩
  obtain ⟨w2, hw2⟩ : ∃ w2, w2 = (((((w.alloc (oU u ca cc ga gc)).alloc (.cells #[.int .i64 t] 3)).alloc (.cells #[.slice aa L.length ac] 216)).alloc (.map #[] 0)).alloc (.cells #[.map (some (w.heap.size + 1 + 1 + 1))] 217)) := ⟨_, rfl⟩
  have HW : Hid (Below w.heap.size w w2 ∧ w2.heap[w.heap.size]? = some (oU u ca cc ga gc) ∧ w2.heap[w.heap.size + 1]? = some (.cells #[.int .i64 t] 3) ∧ w2.heap[w.heap.size + 1 + 1]? = some (.cells #[.slice aa L.length ac] 216) ∧ SetAt w2 (w.heap.size + 1 + 1 + 1) [] ∧ w2.heap[w.heap.size + 1 + 1 + 1 + 1]? = some (.cells #[.map (some (w.heap.size + 1 + 1 + 1))] 217) ∧ w2.heap.size = w.heap.size + 1 + 1 + 1 + 1 + 1) := hid (by
    rw [hw2]
    refine ⟨((((bnew w _).step (bnew _ _)).step (bnew _ _)).step (bnew _ _)).step (bnew _ _), ?_, ?_, ?_, ?_, ?_, by simp⟩
    · exact keepBox (bnew _ _) (keepBox (bnew _ _) (keepBox (bnew _ _) (keepBox (bnew _ _) (heapn _ _ _ rfl))))
    · exact keepBox (bnew _ _) (keepBox (bnew _ _) (keepBox (bnew _ _) (heapn _ _ _ (by simp))))
    · exact keepBox (bnew _ _) (keepBox (bnew _ _) (heapn _ _ _ (by simp)))
    · have := setAt_made (((w.alloc (oU u ca cc ga gc)).alloc (.cells #[.int .i64 t] 3)).alloc (.cells #[.slice aa L.length ac] 216))
      simp only [World.size_alloc] at this
      exact this.below (bnew _ _)
    · exact heapn _ _ _ (by simp))
  have hmm := @run_makeMap Tryz.prog
  refine callsIn_of_wp_marks Tryz.func175 rfl trivial ?_ rfl
  simp only [Tryz.ntmps175, List.size_toArray, List.length_cons, List.length_nil, Nat.reduceAdd, Nat.reduceSub, Array.replicate_succ, Array.replicate_zero, List.push_toArray, List.append_toArray, List.nil_append, List.cons_append]
  gi_upto_region 2 with fail
  rw [← hw2]
  clear hw2 hmm hbu
  obtain ⟨hwb, h1, h2, h3, h4, h5, h6⟩ := HW.out
  obtain ⟨k0, k1, k2, k3, k4, k5, k6⟩ := box7 h1
  have kt := (cell_of_row _ _ 0 _ _ _ h2).trans rfl
  clear hwb h1 h2 h3 h4 h5 h6
  gi_wp2_with (first
    | ((try refine ⟨trivial, ?_⟩); gi_at_call 166; refine (callsIn_wide.2 (leads_any u t ca cc ga gc _)).mono ?_; rintro e W0 ⟨rfl, hW0⟩))
  clear k0 k1 k2 k3 k4 k5 k6 kt
  obtain ⟨bo, hbo⟩ : ∃ b, b = w.heap.size + 1 + 1 + 1 := ⟨_, rfl⟩
  obtain ⟨hwb, h1, h2, h3, h4, h5, h6⟩ := HW.out
  rw [← hbo] at h4
  replace h5 : w2.heap[w.heap.size + 1 + 1 + 1 + 1]? = some (.cells #[.map (some bo)] 217) := by rw [hbo]; exact h5
  have hbw : Below w2.heap.size w2 W0 := by rw [← hW0]; exact (bnew _ _).step (bnew _ _)
  have hW0s : W0.heap.size = w2.heap.size + 1 + 1 := by rw [← hW0]; simp
  have hU : W0.heap[w2.heap.size]? = some (oU u ca cc ga gc) := by rw [← hW0]; exact keepBox (bnew _ _) (heapn _ _ _ rfl)
  have hT : W0.heap[w2.heap.size + 1]? = some (.cells #[.int .i64 t] 3) := by rw [← hW0]; exact heapn _ _ _ (by simp)
  clear hW0
  have g1 := keepBox hbw h1
  have g2 := keepBox hbw h2
  have g3 := keepBox hbw h3
  have g4 := h4.below hbw
  have g5 := keepBox hbw h5
  have hW : Below w.heap.size w W0 := hwb.step hbw
  have hun : UnO (MiS fun _ => False) W0 u ca cc ga gc := ⟨HM.out.below hW, fun _ _ _ _ h => h, fun _ _ _ _ h => h⟩
  have hstops := leads_stops 19 (by omega) (fenc_set fun _ => False) u t ht hlc hlg ca cc ga gc w2.heap.size (w2.heap.size + 1) W0 hU hT hun (fun h => h) (fun h => h) (fun k hk => hk.elim)
  have HG0 := hid (And.intro hW (And.intro g1 (And.intro g2 (And.intro g3 (And.intro g5 (And.intro h6 hW0s))))))
  have HBO := hid hbo
  clear hwb h1 h2 h3 h4 h5 h6 hbw hU hT g1 g2 g3 g5 hun hbo
  refine wpIn_rangeFunc_ownG (α := LdX u t) rfl (by omega) (gf := 208) (lb := #[.pointer (some ⟨w2.heap.size, 0, none⟩), .pointer (some ⟨w2.heap.size + 1, 0, none⟩)]) rfl trivial (enters_of Tryz.func208 (by kernel_rfl) rfl) hstops KeepK.trans (keep_k (fenc_set _)) (Below.refl _ _) (fun _ => rfl)
    (fun pre W => NdI u L t bo W0 pre W) (fun c pre W => False) ?hI (fun c pre A B row h hg hr => h) ?h0 ?a1 ?assign ?body ?done ?stop
  case assign =>
    intro l x W K hK
    gi_wp2
    exact hK
  case hI =>
    rintro pre A B row ⟨e1, e2⟩ hg hr
    have e3 : bo < W0.heap.size := by have := HG0.out.2.2.2.2.2.1; have := HBO.out; omega
    exact ⟨e1.andThen hg (fun j e => .inl (hr j e).1), e2.kept hg (fun e => by have := (hr bo e.symm).1; omega)⟩
  case h0 => exact ⟨⟨rfl, rfl, rfl, Nat.le_refl _, fun _ _ _ => rfl⟩, g4⟩
  case body =>
    rintro l pre ⟨⟨tt, how⟩, hx⟩ W hJ _
    obtain ⟨hx0, hx1⟩ := HIN.out (tt, how) hx
    obtain ⟨k, rfl⟩ : ∃ k : Nat, tt = (k : Int) := ⟨tt.toNat, by simp at hx0; omega⟩
    have hk : k < u.code.length := by simp at hx1; omega
    have hkL : k < L.length := by rw [HN.out]; exact hk
    have HJ := hid hJ
    clear hJ hx0 hx1 g4
    obtain ⟨hW, g1, g2, g3, g5, e6, e7⟩ := HG0.out
    have hBW : Below w.heap.size w W := hW.grown HJ.out.g hW.size (fun r e => by cases e; rw [HBO.out]; omega)
    have b3 := (HJ.out.g.block _ (lt_of_heap g3) (fun e => by cases e; have := HBO.out; omega)).trans g3
    obtain ⟨b, off, vA, ha, hlt, hc, hs⟩ := HL.out k hkL
    subst ha
    have hvb : ∀ b', vA = .map (some b') → b' < w.heap.size := fun b' e => by
      rcases hs with ⟨e1, _⟩ | ⟨b1, e1, h⟩
      · rw [e] at e1; cases e1
      · rw [e] at e1; cases e1; exact h.lt
    have HVB := hid hvb
    clear hvb
    replace hc := cell_later hBW hc
    replace hs := hs.below hBW
    have c3 := (cell_of_row _ _ 0 _ _ _ b3).trans rfl
    have nk : (k : Int) < (L.length : Int) := by omega
    have nk0 : (0 : Int) ≤ (k : Int) := by omega
    have HSV := hid hs
    have HBW := hid hBW
    clear hW g1 g2 g3 g5 e6 e7 hBW b3 hs
    gi_wp2_with (first
      | (gi_at_range; refine wpListIn_set_range _ rfl _ rfl vA L[k] rfl HSV.out ?_; intro w3 hr3 hg3 hz3; have HR3 := hid hr3; have HG3 := hid hg3; clear hr3 hg3 hz3))
    go_frame
    have HWW := hid (fun wx => writes_any u.code[t] wx)
    have hSS := HJ.out.s
    have HBX := hid (fun (k : Nat) (o : Obj) (hk : k < W0.heap.size) (hn : k ≠ bo) (ho : W0.heap[k]? = some o) (wx : World) (hg : W.grownBy wx (some bo)) => (show wx.heap[k]? = some o from (hg.block k (Nat.lt_of_lt_of_le hk HJ.out.g.size) (fun e => hn (by cases e; rfl))).trans ((HJ.out.g.block k hk (fun e => hn (by cases e; rfl))).trans ho)))
    have HBV := hid (fun (wx : World) (hg : W.grownBy wx (some bo)) => (show Below w.heap.size w wx from HBW.out.grown hg HBW.out.size (fun r e => by cases e; rw [HBO.out]; omega)))
    obtain ⟨A, hA⟩ : ∃ A, A = L[k] := ⟨_, rfl⟩
    obtain ⟨S0, hS0⟩ : ∃ S, S = (ldV pre).foldl (ndOne u L t) [] := ⟨_, rfl⟩
    obtain ⟨wi, hwi⟩ : ∃ n, n = writesI u.code[t] := ⟨_, rfl⟩
    have HA := hid (And.intro hA (And.intro hS0 hwi))
    rw [← hA] at HSV HR3
    rw [← hS0] at hSS
    rw [← hwi] at HWW
    have HSS := hid hSS
    clear hA hS0 hwi hSS hc nk nk0
    gi_loopg [] A.length (fun gh wr => ∃ S1 L1 : List Int, gh = 0 + L1.length ∧ Hid (NdS bo W.heap.size vA A S0 (fun n => how == 2 || n != wi) W S1 L1 wr))
    case atStart =>
      exact ⟨S0, A, by omega, hid ⟨HG3.out.but _, HSS.out.kept HG3.out (by simp), HR3.out, fun x => ⟨.inl, fun h => h.elim id (fun h => absurd h.1 h.2.1)⟩⟩⟩
    case round =>
      obtain ⟨S1, L1, rfl, HQ⟩ := hrel
      gi_wp2_with (first
        | (gi_at_next; refine wpListIn_set_next _ rfl _ rfl _ vA A L1 rfl HQ.out.rng ?_ ?_))
      · intro h0
        subst h0
        gi_wp2
        obtain ⟨hg, hs, hr, hm⟩ := HQ.out
        have e1 : S1 = ndOne u L t S0 ((k : Int), how) := by
          unfold ndOne
          have e2 : ((k : Int), how).1.toNat = k := by simp
          rw [e2, getD_in hkL, getD_in ht, ← HA.out.1, ← HA.out.2.2]
          refine sorted_ext hs.so (sorted_foldIns HSS.out.so) fun x => ?_
          rw [hm x, mem_foldIns, List.mem_filter]
          simp
        refine ⟨KeepsFrom.of_grownBy hg (fun j e => by cases e; have := HG0.out.2.2.2.2.2.1; have := HBO.out; omega), fun _ => keepM_map HJ.out.s hg, HJ.out.g.andThen hg (fun j e => .inr e), ?_⟩
        rw [e1, HA.out.2.1] at hs
        unfold ldV at *
        rw [List.map_append, List.foldl_append]
        exact hs
      · intro x w4 hx4 hr4 hg4 hz4 hen
        have hxA : x ∈ A := HQ.out.rng.sub x hx4
        have hG4 : W.grownBy w4 (some bo) := HQ.out.g.andThen hg4 (fun j e => .inl (by cases e; exact Nat.le_refl _))
        have hS4 : SetAt w4 bo S1 := HQ.out.s.kept hg4 (fun e => by cases e; have := HJ.out.s.lt; omega)
        have HX4 := hid (And.intro hx4 (And.intro hxA (And.intro hr4 (And.intro hG4 hS4))))
        obtain ⟨hW, g1, g2, g3, g5, e6, e7⟩ := HG0.out
        have b1 := HBX.out _ _ (lt_of_heap g1) (by rw [HBO.out]; omega) g1 w4 hG4
        have b2 := HBX.out _ _ (lt_of_heap g2) (by rw [HBO.out]; omega) g2 w4 hG4
        have b5 := HBX.out _ _ (lt_of_heap g5) (by rw [HBO.out]; omega) g5 w4 hG4
        have d1 := (cell_of_row _ _ 5 _ _ _ b1).trans rfl
        have d2 := (cell_of_row _ _ 0 _ _ _ b2).trans rfl
        have d5 : w4.cell? ⟨w.heap.size + 1 + 1 + 1 + 1, 0, none⟩ = some (.map (some bo)) := (cell_of_row _ _ 0 _ _ _ b5).trans rfl
        obtain ⟨bc, oc, hca, hlc2, c0, c1, c2, c3⟩ := (HM.out.rc.below (HBV.out w4 hG4)) t ht
        subst hca
        have nt : (t : Int) < (u.code.length : Int) := by omega
        have hxb := HSV.out.bd x hxA
        have HB5 := hid b5
        clear hx4 hxA hr4 hg4 hz4 hG4 hS4 g1 g2 g3 g5 e6 e7 b1 b2 b5 hW
        generalize u.code[t] = y at *
        have HPUT := hid (fun (w5 w6 : World) (hb : Below w4.heap.size w4 w5) (hs : SetAt w6 bo (insS x S1)) (hg : w5.grownBy w6 (some bo)) (hc : (how == 2 || x != wi) = true) => (show NdS bo W.heap.size vA A S0 (fun n => how == 2 || n != wi) W (insS x S1) (L1.filter (· != x)) w6 from by
          obtain ⟨q1, q2, q3, q4, q5⟩ := HX4.out
          refine HQ.out.put q1 hc ((q4.andThen (row' := none) ⟨hb.os, hb.tape, hb.output, hb.size, fun k hk _ => hb.block k hk⟩ (fun j e => by cases e)).andThen hg (fun j e => .inr e)) hs ((q3.below hb).kept hg (fun e => by cases e; have := HJ.out.s.lt; omega) (fun b' e e2 => absurd (HVB.out b' e) (by have h9 := HBO.out; injection e2 with e3; omega)))))
        have HSKIP := hid (fun (w5 : World) (hb : Below w4.heap.size w4 w5) (hc : (how == 2 || x != wi) = false) => (show NdS bo W.heap.size vA A S0 (fun n => how == 2 || n != wi) W S1 (L1.filter (· != x)) w5 from by
          obtain ⟨q1, q2, q3, q4, q5⟩ := HX4.out
          exact HQ.out.skip q1 hc (q4.andThen (row' := none) ⟨hb.os, hb.tape, hb.output, hb.size, fun k hk _ => hb.block k hk⟩ (fun j e => by cases e)) (q5.below hb) (q3.below hb)))
        have hfl := filter_ne_lt HX4.out.1
        have HS4 := hid HX4.out.2.2.2.2
        cases hh : (how == 2) with
        | true =>
          gi_wp2_with (first
            | (gi_at_mapUpdate; refine wpListIn_set_put _ rfl _ _ _ rfl bo S1 x rfl HS4.out rfl rfl hxb ?_; intro w6 hs6 hg6; have HN6 := hid (HPUT.out _ w6 (Below.refl _ _) hs6 hg6 (by rw [hh]; rfl)); clear hs6 hg6)
            | (refine ⟨trivial, ?_⟩))
          gi_roundg (0 + (L1.filter (· != x)).length)
          case measure => omega
          case rel => exact ⟨_, _, rfl, HN6⟩
        | false =>
          cases hw : (x != wi) with
          | true =>
            gi_wp2_with (first
              | ((try refine ⟨trivial, ?_⟩); gi_at_call 71; (with_reducible refine (CallsIn.inRound l (callsIn_wide.2 (HWW.out _))).mono ?_); rintro e9 w5 ⟨rfl, hb⟩; have HB5' := hid hb; have f5 : w5.cell? ⟨w.heap.size + 1 + 1 + 1 + 1, 0, none⟩ = some (.map (some bo)) := (cell_of_row _ _ 0 _ _ _ (keepBox hb HB5.out)).trans rfl; have HS5 := hid (HS4.out.below hb); clear hb)
              | (gi_at_mapUpdate; refine wpListIn_set_put _ rfl _ _ _ rfl bo S1 x rfl HS5.out rfl rfl hxb ?_; intro w6 hs6 hg6; have HN6 := hid (HPUT.out _ w6 HB5'.out hs6 hg6 (by rw [hh, hw]; rfl)); clear hs6 hg6))
            gi_roundg (0 + (L1.filter (· != x)).length)
            case measure => omega
            case rel => exact ⟨_, _, rfl, HN6⟩
          | false =>
            gi_wp2_with (first
              | ((try refine ⟨trivial, ?_⟩); gi_at_call 71; (with_reducible refine (CallsIn.inRound l (callsIn_wide.2 (HWW.out _))).mono ?_); rintro e9 w5 ⟨rfl, hb⟩; have HN6 := hid (HSKIP.out _ hb (by rw [hh, hw]; rfl)); clear hb))
            gi_roundg (0 + (L1.filter (· != x)).length)
            case measure => omega
            case rel => exact ⟨_, _, rfl, HN6⟩
  case stop =>
    rintro D c pre W hD _ hx
    exact hx.elim
  case done =>
    rintro D ys W hD hS hJ hdef
    obtain ⟨hg, hs⟩ := hJ
    rw [show ldV ys = leadsL u t from hS] at hs
    obtain ⟨hW, g1, g2, g3, g5, e6, e7⟩ := HG0.out
    have hBW : Below w.heap.size w W := hW.grown hg hW.size (fun r e => by cases e; rw [HBO.out]; omega)
    have b1 := (hg.block _ (lt_of_heap g1) (fun e => by cases e; have := HBO.out; omega)).trans g1
    have b2 := (hg.block _ (lt_of_heap g2) (fun e => by cases e; have := HBO.out; omega)).trans g2
    have b5 := (hg.block _ (lt_of_heap g5) (fun e => by cases e; have := HBO.out; omega)).trans g5
    have d1 := (cell_of_row _ _ 5 _ _ _ b1).trans rfl
    have d2 := (cell_of_row _ _ 0 _ _ _ b2).trans rfl
    obtain ⟨bc, oc, hca, hlc2, c0, c1, c2, c3⟩ := (HM.out.rc.below hBW) t ht
    subst hca
    have nt : (t : Int) < (u.code.length : Int) := by omega
    have HRR := hid (fun wx => reads_any u.code[t] wx)
    have HN2 := hid (nowS_eq u L t)
    rw [getD_in ht] at HN2
    have HK := hid (And.intro hBW (And.intro b5 (And.intro hs (And.intro hdef (show w.heap.size ≤ D from by omega)))))
    have HDB : Hid (D ≠ bo) := hid (by have := HBO.out; omega)
    clear hg g1 g2 g3 g5 e6 e7 b1 b2 b5 hs hBW hW hdef hstops g4
    dsimp only
    gi_upto_region 11 with (first
      | ((try refine ⟨trivial, ?_⟩); gi_at_call 70; (with_reducible refine (callsIn_wide.2 (HRR.out _)).mono ?_); rintro e9 w5 ⟨hb, v5, rfl, ho⟩; obtain ⟨ra, rc, rfl, hrp⟩ := ho.rd; have HB5 := hid hb; have HR5 := hid hrp; clear hb ho hrp))
    clear d1 d2 c0 c1 c2 c3 nt
    obtain ⟨R, hR⟩ : ∃ R, R = readsL u.code[t] := ⟨_, rfl⟩
    obtain ⟨S0, hS0⟩ : ∃ S, S = (leadsL u t).foldl (ndOne u L t) [] := ⟨_, rfl⟩
    rw [← hR] at HR5 HRB HN2
    rw [← hS0] at HN2 HK
    rw [← hR]
    have hrl : R.length ≤ 2 := by rw [hR]; exact readsL_len _
    clear hR hS0
    gi_loopg [49] R.length (fun gh s49 wr => ∃ j : Nat, j ≤ R.length ∧ gh = R.length - j ∧ s49 = .int .i64 j ∧ Hid (w5.grownBy wr (some bo) ∧ SetAt wr bo ((R.take j).foldl (fun s n => insS n s) S0)))
    case atStart => exact ⟨0, Nat.zero_le _, rfl, rfl, hid ⟨⟨rfl, rfl, rfl, Nat.le_refl _, fun _ _ _ => rfl⟩, HK.out.2.2.1.below HB5.out⟩⟩
    case round =>
      obtain ⟨j, hj, rfl, rfl, HQ⟩ := hrel
      have hb5 : wr.heap[w.heap.size + 1 + 1 + 1 + 1]? = some (.cells #[.map (some bo)] 217) := (HQ.out.1.block _ (lt_of_heap (keepBox HB5.out HK.out.2.1)) (fun e => by cases e; have := HBO.out; omega)).trans (keepBox HB5.out HK.out.2.1)
      have d5 : wr.cell? ⟨w.heap.size + 1 + 1 + 1 + 1, 0, none⟩ = some (.map (some bo)) := (cell_of_row _ _ 0 _ _ _ hb5).trans rfl
      clear hb5
      by_cases hlj : j < R.length
      · have hxb := HRB.out R[j] (List.getElem_mem hlj)
        obtain ⟨b2, off, ha, hlt2, h0⟩ := HR5.out j hlj
        subst ha
        have hne : b2 ≠ bo := fun e => by
          obtain ⟨es, clock, hmb, _⟩ := (HK.out.2.2.1.below HB5.out).own
          rw [e] at h0
          unfold World.cell? at h0
          simp [hmb] at h0
        have h0r : wr.cell? ⟨b2, off + j, none⟩ = some (.int .i64 R[j]) := (World.cell?_of_block (w := w5) (w' := wr) (a := ⟨b2, off + j, none⟩) (HQ.out.1.block b2 hlt2 (fun e => hne (by cases e; rfl)))).trans h0
        clear h0
        have nj : (j : Int) < (R.length : Int) := by omega
        have HT : Hid ((R.take (j + 1)).foldl (fun s n => insS n s) S0 = insS R[j] ((R.take j).foldl (fun s n => insS n s) S0)) := hid (by rw [take_last hlj, List.foldl_append]; rfl)
        generalize R[j] = x at *
        have HS := hid HQ.out.2
        gi_wp2_with (first
          | (gi_at_mapUpdate; refine wpListIn_set_put _ rfl _ _ _ rfl bo _ x rfl HS.out rfl rfl hxb ?_; intro w6 hs6 hg6; have HS6 := hid hs6; have HG6 := hid hg6; clear hs6 hg6))
        gi_roundg (R.length - (j + 1))
        case measure => omega
        case rel => exact ⟨j + 1, by omega, rfl, by go_num, hid ⟨HQ.out.1.andThen HG6.out (fun j e => .inr e), by rw [HT.out]; exact HS6.out⟩⟩
      · obtain rfl : j = R.length := by omega
        gi_wp2
        obtain ⟨hBW, hb5, hs, hdef, hDw⟩ := HK.out
        obtain ⟨q1, q2⟩ := HQ.out
        rw [List.take_length, ← HN2.out] at q2
        have hbw : Below w.heap.size w wr := (hBW.step HB5.out).grown q1 (hBW.step HB5.out).size (fun r e => by cases e; rw [HBO.out]; omega)
        have hDr : wr.heap[D]? = some (.deferred (some [])) := (q1.block D (lt_of_heap ((HB5.out.block D (lt_of_heap hdef)).trans hdef)) (fun e => HDB.out (by injection e))).trans ((HB5.out.block D (lt_of_heap hdef)).trans hdef)
        refine leaves_mark1 hDr ?_
        refine ⟨.map (some bo), ?_, ?_⟩
        · simp [results, Tryz.results175, go_sem]
        · exact ⟨hbw.trans ⟨rfl, rfl, rfl, by simp [World.putObj], fun k hk => World.putObj_heap_other (by omega)⟩, bo, rfl, q2.keep (World.putObj_heap_other (fun e => HDB.out e.symm)), by rw [HBO.out]; omega⟩
theorem needed_any (u : UntN) (t : Nat) (ht : t < u.code.length) (hlc : u.code.length ≤ 1000000) (hlg : u.guards.length ≤ 1000000) (ca : Option Addr) (cc : Nat) (ga : Option Addr) (gc : Nat) (L : List (List Int)) (aa : Option Addr) (ac : Nat) (w : World) (hm : UnM w u ca cc ga gc) (hL : RdS w aa L) (hlen : L.length = u.code.length)
    (hin : ∀ x, x ∈ leadsL u t → 0 ≤ x.1 ∧ x.1 < u.code.length) (hr : ∀ x ∈ readsL u.code[t], 0 ≤ x ∧ x < 1000000) :
    Calls Tryz.prog 175 #[vU u ca cc ga gc, .int .i64 t, .slice aa L.length ac] w fun e w' => Below w.heap.size w w' ∧ ∃ b, e = .returned (.map (some b)) ∧ SetAt w' b (nowS u L t) ∧ w.heap.size ≤ b :=
  callsIn_wide.1 (needed_in u t ht hlc hlg ca cc ga gc L aa ac w hm hL hlen hin hr)
end Go.Proofs.YtgalekifgnecjaaGreat
