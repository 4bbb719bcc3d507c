/- The reader of package regs: homed, all cases. The reader's check of package regs. CheckRegs of package regs. -/
import Derived.Test.YtgalekifgnecjaaGreatT12
import Derived.Test.YtgalekifgnecjaaGreatT13
import Derived.Test.YtgalekifgnecjaaGreatT20
import Derived.Defers
import Derived.Recover
namespace Go.Proofs.YtgalekifgnecjaaGreat
open Go.RowKit

open Go.RowKit Go.Shelf
theorem homed_any (w0 : World) (r : RdrN) (a : Nat) (w : World) (hm : RdrM w0 r) (h : RI w0 r a w) (hw : writB r.u = true) (hh : r.h.length ≤ 1000000) (ht : r.t.length ≤ 1000000) (hv : r.v.code.length ≤ 1000000) (hwf : ∀ x ∈ r.h, -9223372036854775808 ≤ x ∧ x ≤ 9223372036854775807) :
    Calls Tryz.prog 182 #[.pointer (some ⟨w0.heap.size, 0, none⟩)] w (RP w0 r (if homedB r.u r.v r.h r.t = true then some a else none) w) := by
  cases h1 : homHd1 r.u r.v r.h r.t with
  | false =>
    rw [if_neg (by rw [homedB_eq, h1]; simp)]
    exact homed_hd1 w0 r a w hm h hw hh ht hv h1
  | true => exact homed_main w0 r a w hm h hw hh ht hv hwf h1

attribute [local go_sem] Oper.semAt_some
theorem ldGo_le {v : UntN} {h reads needed : List Int} : ∀ {f a : Nat} {had : List Int} {m : List (Int × Int)} {lm : Nat × List (Int × Int)}, ldGo v h reads needed f a had m = some lm → lm.1 ≤ max a v.code.length
  | 0, _, _, _, _, hl => by cases hl
  | f + 1, a, had, m, lm, hl => by
    rw [ldGo] at hl
    cases hx : v.code[a]? with
    | none => rw [hx] at hl; cases hl; exact Nat.le_max_left _ _
    | some x =>
      rw [hx] at hl
      have hlt : a < v.code.length := (List.getElem?_eq_some_iff.1 hx).1
      simp only at hl
      split at hl
      · cases hl; exact Nat.le_max_left _ _
      · split at hl
        · have := ldGo_le hl
          omega
        · cases hl
theorem insGo_le {u v : UntN} {h at' : List Int} {m : List (Int × Int)} {behind : List Int} {frm : Nat} : ∀ {n a b : Nat}, insGo u v h at' m behind frm n a = some b → b ≤ max a v.code.length
  | 0, a, b, hl => by cases hl; exact Nat.le_max_left _ _
  | n + 1, a, b, hl => by
    unfold insGo at hl
    cases hi : insGo u v h at' m behind frm n a with
    | none => rw [hi] at hl; cases hl
    | some c =>
      rw [hi, Option.bind_some] at hl
      unfold insOne at hl
      cases hx : v.code[c]? with
      | none => rw [hx] at hl; cases hl
      | some x =>
        rw [hx] at hl
        have hlt : c < v.code.length := (List.getElem?_eq_some_iff.1 hx).1
        simp only at hl
        split at hl
        · cases hl; omega
        · cases hl
theorem nxtI_le {v : UntN} {a b : Nat} {x : InsN} (h : nxtI v a x = some b) : b ≤ v.code.length := by
  unfold nxtI at h
  split at h
  · rename_i hx
    have hlt : a < v.code.length := (List.getElem?_eq_some_iff.1 hx).1
    cases h; omega
  · cases h
theorem grpChk_le {u v : UntN} {live : List (List Int)} {h at' : List Int} {a b : Nat} {g : GrpN} (hg : grpChk u v live h at' a g = some b) : b ≤ max a v.code.length := by
  unfold grpChk at hg
  split at hg
  · cases hl : ldGo v h g.reads (grpBusy u live g) (v.code.length + 1) a [] [] with
    | none => rw [hl] at hg; cases hg
    | some lm =>
      rw [hl, Option.bind_some] at hg
      have h1 := ldGo_le hl
      cases hi : insGo u v h at' lm.2 (grpBehind u live g) g.frm (g.til + 1 - g.frm) lm.1 with
      | none => rw [hi] at hg; cases hg
      | some c =>
        rw [hi, Option.bind_some] at hg
        have h2 := insGo_le hi
        split at hg
        · have := nxtI_le hg
          omega
        · cases hg
          omega
  · cases hg
theorem grpsChk_append {u v : UntN} {live : List (List Int)} {h at' : List Int} : ∀ {l l2 : List GrpN} {a : Nat}, grpsChk u v live h at' (l ++ l2) a = (grpsChk u v live h at' l a).bind (grpsChk u v live h at' l2)
  | [], _, _ => rfl
  | g :: l, l2, a => by
    show (grpChk u v live h at' a g).bind (grpsChk u v live h at' (l ++ l2)) = _
    show _ = ((grpChk u v live h at' a g).bind (grpsChk u v live h at' l)).bind _
    cases grpChk u v live h at' a g with
    | none => rfl
    | some b => exact grpsChk_append
theorem grpsChk_snoc {u v : UntN} {live : List (List Int)} {h at' : List Int} {l : List GrpN} {g : GrpN} {a : Nat} : grpsChk u v live h at' (l ++ [g]) a = (grpsChk u v live h at' l a).bind fun b => grpChk u v live h at' b g := by
  rw [grpsChk_append]
  cases grpsChk u v live h at' l a with
  | none => rfl
  | some b =>
    show (grpChk u v live h at' b g).bind (grpsChk u v live h at' []) = grpChk u v live h at' b g
    cases grpChk u v live h at' b g <;> rfl
theorem grpsChk_prefix {u v : UntN} {live : List (List Int)} {h at' : List Int} {l l2 : List GrpN} {a : Nat} (hp : l <+: l2) (hn : grpsChk u v live h at' l a = none) : grpsChk u v live h at' l2 a = none := by
  obtain ⟨t, rfl⟩ := hp
  rw [grpsChk_append, hn]
  rfl
theorem leaves_markP {F : Fence} {n : Nat} {P : Program} {fn : Func} {tmps : Array Value} {R : Ending → World → Prop} {D : Nat} {W : World} {ch : List PanicEntry} (hd : W.heap[D]? = some (.deferred (some []))) (h : LeavesIn F n P fn tmps R [] (.panicking ch) (W.putObj D (.deferred none))) : LeavesInM F n P fn tmps R [markD D] (.panicking ch) W :=
  ⟨by simp, .inl ⟨D, W.putObj D (.deferred none), rfl, run_takeDeferred hd, h⟩⟩
theorem gB_putObj {w W : World} {row : Option Nat} (h : w.grownBy W row) {D : Nat} (hD : w.heap.size ≤ D) (o : Obj) : w.grownBy (W.putObj D o) row :=
  ⟨h.os, h.tape, h.output, by simpa [World.putObj] using h.size, fun k hk hn => (World.putObj_heap_other (by omega)).trans (h.block k hk hn)⟩
theorem RI.putObj {w0 : World} {r : RdrN} {a : Nat} {W : World} (h : RI w0 r a W) {D : Nat} (hD : w0.heap.size < D) (o : Obj) : RI w0 r a (W.putObj D o) :=
  ⟨h.hb.trans ⟨rfl, rfl, rfl, by simp [World.putObj], fun k hk => World.putObj_heap_other (by omega)⟩, (World.putObj_heap_other (by omega)).trans h.hr⟩
/-- What check does. -/
def CkP (w0 : World) (b : Bool) (w : World) (e : Ending) (w' : World) : Prop := w.grownBy w' (some w0.heap.size) ∧ e = if b = true then .returned (.tuple #[]) else .panicked wrongP
theorem RdI.own {w w' : World} {a : Option Addr} {l : List Int} {row : Option Nat} (h : RdI w a l) (hg : w.grownBy w' row) (hr : ∀ r, row = some r → ∃ o : Obj, w.heap[r]? = some o ∧ o.isCells = false) : RdI w' a l := by
  intro i hi
  obtain ⟨b, off, ha, hlt, hc⟩ := h i hi
  refine ⟨b, off, ha, Nat.lt_of_lt_of_le hlt hg.size, (World.cell?_of_block (hg.block b hlt (fun e => ?_))).trans hc⟩
  obtain ⟨o, ho, hn⟩ := hr b e.symm
  unfold World.cell? at hc
  rw [ho] at hc
  cases o <;> simp_all [Obj.isCells]
/-- The loop over the groups. -/
structure CkI (w0 w : World) (r : RdrN) (a1 : Nat) (pre : List GrX) (W : World) : Prop where
  ex : ∃ a, grpsChk r.u r.v (liveL r.u) r.h r.t (pre.map GrX.g) a1 = some a ∧ a ≤ 1000 ∧ RI w0 r a W
  hg : w.grownBy W (some w0.heap.size)
  h1 : W.heap[w.heap.size]? = some (.cells #[.pointer (some ⟨w0.heap.size, 0, none⟩)] 177)
set_option maxRecDepth 100000 in
set_option maxHeartbeats 8000000 in
theorem check_any (w0 : World) (r : RdrN) (w : World) (hm : RdrM w0 r) (h : RI w0 r 0 w) (hw : writB r.u = true) (hh : r.h.length ≤ 1000000) (ht : r.t.length ≤ 1000000) (hv : r.v.code.length ≤ 1000000) (hvg : r.v.guards.length ≤ 1000000) (hvb : ∀ y ∈ r.v.code, -9223372036854775808 ≤ y.b ∧ y.b ≤ 9223372036854775807) (hwf : ∀ x ∈ r.h, -9223372036854775808 ≤ x ∧ x ≤ 9223372036854775807) :
    Calls Tryz.prog 133 #[.pointer (some ⟨w0.heap.size, 0, none⟩)] w (CkP w0 (standB r.u r.v r.h r.t) w) := by
  have HM := hid hm
  have hlt := lt_of_heap h.hr
  have hi1 : RI w0 r 0 (w.alloc (.cells #[.pointer (some ⟨w0.heap.size, 0, none⟩)] 177)) := h.below (bnew _ _)
  have HX1 := hid (heapn w (.cells #[.pointer (some ⟨w0.heap.size, 0, none⟩)] 177) _ rfl)
  have HG1 := hid (grown_ofB (bnew w (.cells #[.pointer (some ⟨w0.heap.size, 0, none⟩)] 177)) (some w0.heap.size))
  have HHO := hid (homed_any w0 r 0 _ hm hi1 hw hh ht hv hwf)
  have HST : Hid (standB r.u r.v r.h r.t = (homedB r.u r.v r.h r.t && (((begL r.v r.h r.u.args.toNat).bind (grpsChk r.u r.v (liveL r.u) r.h r.t (groupsL r.u))) == some r.v.code.length) && grdsB r.u r.v r.t)) := hid rfl
  have hargs := writ_args hw
  have HLT := hid hlt
  clear hm h
  obtain ⟨w1, hw1⟩ : ∃ w1, w1 = w.alloc (.cells #[.pointer (some ⟨w0.heap.size, 0, none⟩)] 177) := ⟨_, rfl⟩
  rw [← hw1] at HHO HX1 HG1 hi1
  have HSZ : Hid (w1.heap.size = w.heap.size + 1) := hid (by rw [hw1]; simp)
  have HI1 := hid hi1
  have c1 := cellO HX1.out
  clear hi1
  cases hhd : homedB r.u r.v r.h r.t with
  | false =>
    rw [hhd, if_neg (by simp)] at HHO
    have HS : Hid (standB r.u r.v r.h r.t = false) := hid (by rw [HST.out, hhd]; rfl)
    go_enter Tryz.func133, Tryz.ntmps133
    go_upto_region 1 with fail
    rw [← hw1]
    clear hw1
    go_wp2_with (first
      | (go_at_call 182; (with_reducible refine HHO.out.mono ?_); rintro e w2 ⟨hg, rfl⟩; have HG2 := hid (HG1.out.andThen hg (fun j e => .inr e)); clear hg))
    exact ⟨rfl, HG2.out, by rw [HS.out]; rfl⟩
  | true =>
    rw [hhd, if_pos rfl] at HHO
    have hho := homed_ok hw hhd
    have hl := hho.hl
    have HBG := hid (fun (w' : World) (h : RI w0 r 0 w') => begins_any w0 r w' HM.out h (by omega) (by omega))
    cases hbg : begL r.v r.h r.u.args.toNat with
    | none =>
      rw [hbg] at HBG
      have HS : Hid (standB r.u r.v r.h r.t = false) := hid (by rw [HST.out, hhd, hbg]; rfl)
      go_enter Tryz.func133, Tryz.ntmps133
      go_upto_region 1 with fail
      rw [← hw1]
      clear hw1
      go_wp2_with (first
        | (go_at_call 182; (with_reducible refine HHO.out.mono ?_); rintro e w2 ⟨hg, rfl, hi⟩; have HG2 := hid (HG1.out.andThen hg (fun j e => .inr e)); have HI2 := hid hi; have c1 := cellO (box_kept hg HX1.out (fun e => by have e2 := Option.some.inj e; omega)); clear hg hi)
        | (go_at_call 183; (with_reducible refine (HBG.out _ HI2.out).mono ?_); rintro e w3 ⟨hg, rfl⟩; have HG3 := hid (HG2.out.andThen hg (fun j e => .inr e)); clear hg))
      exact ⟨rfl, HG3.out, by rw [HS.out]; rfl⟩
    | some a1 =>
      rw [hbg] at HBG
      have ha1 := begL_le hbg
      have ha1n : a1 ≤ 1000 := by omega
      have HS : Hid (standB r.u r.v r.h r.t = (((grpsChk r.u r.v (liveL r.u) r.h r.t (groupsL r.u) a1) == some r.v.code.length) && grdsB r.u r.v r.t)) := hid (by rw [HST.out, hhd, hbg]; rfl)
      have HGR := hid (fun (w' : World) (hb : Below w0.heap.size w0 w') => groups_any r.u r.ca r.cc r.ga r.gc w' (HM.out.below hb).mu (by have := writ_len hw; omega))
      have HHOM := hid hho
      have HWR := hid hw
      have HHD := hid hhd
      clear HST hhd hbg hho hl
      refine (callsIn_wide (n := 20)).1 (callsIn_of_wpAt Tryz.func133 rfl ?_)
      simp only [Tryz.ntmps133, List.size_toArray, List.length_cons, List.length_nil, Nat.reduceAdd, Nat.reduceSub, Array.replicate_succ, Array.replicate_zero, List.push_toArray, List.append_toArray, List.nil_append, List.cons_append]
      refine WpAt.seq (WpAt.of (wpIn_wide.2 ?_))
      go_wp2
      rw [← hw1]
      clear hw1
      refine WpAt.seq (WpAt.of (wpIn_wide.2 ?_))
      go_wp2_with (first
        | (go_at_call 182; (with_reducible refine HHO.out.mono ?_); rintro e w2 ⟨hg, rfl, hi⟩; have HG2 := hid (HG1.out.andThen hg (fun j e => .inr e)); have HI2 := hid hi; have HX2 := hid (box_kept hg HX1.out (fun e => by have e2 := Option.some.inj e; omega)); have c2 := cellO HX2.out; clear hg hi))
      refine WpAt.seq (WpAt.of (wpIn_wide.2 ?_))
      go_wp2_with (first
        | (go_at_call 183; (with_reducible refine (HBG.out _ HI2.out).mono ?_); rintro e w3 ⟨hg, rfl, hi⟩; have HG3 := hid (HG2.out.andThen hg (fun j e => .inr e)); have HI3 := hid hi; have HX3 := hid (box_kept hg HX2.out (fun e => by have e2 := Option.some.inj e; omega)); have c3 := cellO HX3.out; clear hg hi))
      have hsz3 := HI3.out.hb.size
      have hlw := HLT.out
      have k0 := (cell_of_row _ _ 0 _ _ _ HI3.out.hr).trans rfl
      have k1 := (cell_of_row _ _ 1 _ _ _ HI3.out.hr).trans rfl
      have k2 := (cell_of_row _ _ 2 _ _ _ HI3.out.hr).trans rfl
      have k3 := (cell_of_row _ _ 3 _ _ _ HI3.out.hr).trans rfl
      have k4 := (cell_of_row _ _ 4 _ _ _ HI3.out.hr).trans rfl
      have k5 := (cell_of_row _ _ 5 _ _ _ HI3.out.hr).trans rfl
      have k6 := (cell_of_row _ _ 6 _ _ _ HI3.out.hr).trans rfl
      refine WpAt.seq (WpAt.seq (WpAt.of (wpIn_wide.2 ?_)))
      go_wp2_with (first
        | (go_at_call 51; (with_reducible refine (HGR.out _ HI3.out.hb).mono ?_); rintro e w4 ⟨hb, gu, gf, gb, rfl, hga⟩; have HB4 := hid hb; have HA4 := hid hga; clear hb hga))
      clear k0 k1 k2 k3 k4 k5 k6 c1 c2 c3
      have HI4 := hid (HI3.out.below HB4.out)
      have HG4 := hid (HG3.out.andThen (grown_ofB HB4.out (some w0.heap.size)) (fun j e => .inr e))
      have HX4 := hid (keepBox HB4.out HX3.out)
      have hlr : w0.heap.size < w4.heap.size := lt_of_heap HI4.out.hr
      have hlD : w.heap.size < w4.heap.size := lt_of_heap HX4.out
      have hun : UnO (MiS (fun k => k = w0.heap.size)) w4 r.u r.ca r.cc r.ga r.gc := by
        refine ⟨(HM.out.below HI4.out.hb).mu, fun h0 b o e => ?_, fun h0 b o e => ?_⟩
        · obtain ⟨b', o', e', hl, _⟩ := HM.out.mu.rc 0 h0
          rw [e] at e'
          cases e'
          exact Nat.ne_of_lt hl
        · obtain ⟨b', o', e', hl, _⟩ := HM.out.mu.rg 0 h0
          rw [e] at e'
          cases e'
          exact Nat.ne_of_lt hl
      have hlu := HA4.out.lu
      have hlf := HA4.out.lf
      have hlb := HA4.out.lb
      have hmi : ∀ k, w3.heap.size ≤ k → MiS (fun k => k = w0.heap.size) w4 k := fun k h => by show ¬ k = w0.heap.size; have := lt_of_heap HI3.out.hr; omega
      have hseq := groups_seq 19 (by omega) (fenc_set (fun k => k = w0.heap.size)) r.u (writ_len HWR.out) r.ca r.cc r.ga r.gc gu gf gb w4 HA4.out.hu HA4.out.hf HA4.out.hb hun (hmi _ hlu) (hmi _ hlf) (hmi _ hlb) (fun k hk => by rw [hk]; exact hlr)
      clear hun hmi
      refine WpAt.block (wpAt_range (α := GrX) rfl (by omega) (gf := 114) (lb := #[.pointer (some ⟨gu, 0, none⟩), .pointer (some ⟨gf, 0, none⟩)]) rfl (enters_of Tryz.func114 (by kernel_rfl) rfl) hseq KeepK.trans (keep_k (fenc_set _)) (Below.refl _ _) (fun _ => rfl)
        (fun pre W => CkI w0 w r a1 pre W) (fun ch pre W => ch = wrongP ∧ grpsChk r.u r.v (liveL r.u) r.h r.t (pre.map GrX.g) a1 = none ∧ w.grownBy W (some w0.heap.size)) ?hI ?h0
        (fun x a' W => ∃ bG t3 t4 t5 t6 t7 t8 t9 t10 t11 t12, a' = ⟨#[.pointer (some ⟨w0.heap.size, 0, none⟩), .pointer (some ⟨w.heap.size, 0, none⟩), .pointer (some ⟨bG, 0, none⟩), t3, t4, t5, t6, t7, t8, t9, t10, t11, t12, vGr x, undef, undef, undef, undef, undef, undef, undef, undef, undef, undef, undef, undef, undef, undef, undef, undef, undef], []⟩ ∧ w0.heap.size < bG ∧ W.heap[bG]? = some (.cells #[.int .i64 x.g.frm, .int .i64 x.g.til, .slice x.a x.g.reads.length x.c, .int .i64 x.g.wr] 107) ∧ RdI W x.a x.g.reads ∧ (∀ b off, x.a = some ⟨b, off, none⟩ → b < W.heap.size ∧ b ≠ w0.heap.size)) ?hAx ?assign ?body ?done ?panic)
      case hI =>
        rintro pre A B row ⟨⟨a, h1, h2, h3⟩, h4, h5⟩ hg hr
        refine ⟨⟨a, h1, h2, h3.grown hg (fun k e => by have := (hr k e).1; omega)⟩, h4.andThen hg (fun j e => .inl (by have := (hr j e).1; omega)), (grown_cells hg (fun r e => (hr r e).2) h5 rfl).trans h5⟩
      case h0 => exact ⟨⟨a1, rfl, ha1n, HI4.out⟩, HG4.out, HX4.out⟩
      case hAx =>
        rintro x a' _ A B row ⟨bG, t3, t4, t5, t6, t7, t8, t9, t10, t11, t12, rfl, hl, hx, hr2, hb2⟩ hg hr
        exact ⟨bG, t3, t4, t5, t6, t7, t8, t9, t10, t11, t12, rfl, hl, (grown_cells hg (fun r e => (hr r e).2) hx rfl).trans hx, hr2.own hg (fun r e => (hr r e).2), fun b off e => ⟨Nat.lt_of_lt_of_le (hb2 b off e).1 hg.size, (hb2 b off e).2⟩⟩
      case assign =>
        intro l pre x W K hI hF hK
        have hsW := lt_of_heap hI.h1
        obtain ⟨⟨a, h1, h2, h3⟩, h4, h5⟩ := hI
        gi_wp2
        refine hK _ _ ((KeepsOthers.alloc _ _).from _) (fun hw => KeepM.of_below (fenc_set _) hw (bnew _ _)) ⟨⟨a, h1, h2, h3.below (bnew _ _)⟩, h4.andThen (grown_ofB (bnew _ _) (some w0.heap.size)) (fun j e => .inr e), keepBox (bnew _ _) h5⟩ ⟨_, _, _, _, _, _, _, _, _, _, _, rfl, by omega, heapn _ _ _ rfl, hF.1.below (bnew _ _), fun b off e => ⟨Nat.lt_of_lt_of_le (hF.2.2 b off e).1 (bnew _ _).size, (hF.2.2 b off e).2⟩⟩
      case body =>
        rintro l pre x a' W hI ⟨bG, t3, t4, t5, t6, t7, t8, t9, t10, t11, t12, rfl, hlb, hx, hr2, hb2⟩ hpre
        obtain ⟨⟨a, h1, h2, h3⟩, h4, h5⟩ := hI
        have HI3w := hid h3
        have HR2 := hid hr2
        have HB2 := hid hb2
        have hmem : x.g ∈ groupsL r.u := hpre.subset (by simp)
        have v0 := cellO h5
        obtain ⟨q0, q1, q2, q3⟩ := box4 hx
        have HC := hid (rgroup_any w0 r a x W HM.out h3 HWR.out hmem hr2 hb2 HHD.out h2 hvb)
        have HK5 := hid h5
        have HG5 := hid h4
        have hpc : grpsChk r.u r.v (liveL r.u) r.h r.t ((pre ++ [x]).map GrX.g) a1 = grpChk r.u r.v (liveL r.u) r.h r.t a x.g := by
          rw [List.map_append, List.map_singleton, grpsChk_snoc, h1]
          rfl
        have HPC := hid hpc
        have HA := hid h2
        clear hr2 hb2 h3 h1 h2 hpc hx h4 h5 hseq
        cases hgc : grpChk r.u r.v (liveL r.u) r.h r.t a x.g with
        | none =>
          rw [hgc] at HC HPC
          gi_wp2_with (first
            | ((try refine ⟨trivial, ?_⟩); gi_at_call 184; (with_reducible refine (CallsIn.inRound l (callsIn_wide.2 HC.out)).mono ?_); rintro e w5 ⟨hg, rfl⟩; have HG6 := hid hg; clear hg))
          exact ⟨rfl, KeepsFrom.of_grownBy HG6.out (fun j e => by cases e; exact hlr), rfl, HPC.out, HG5.out.andThen HG6.out (fun j e => .inr e)⟩
        | some b =>
          have hble := grpChk_le hgc
          rw [hgc] at HC HPC
          gi_wp2_with (first
            | ((try refine ⟨trivial, ?_⟩); gi_at_call 184; (with_reducible refine (CallsIn.inRound l (callsIn_wide.2 HC.out)).mono ?_); rintro e w5 ⟨hg, rfl, hi⟩; have HG6 := hid hg; have HI6 := hid hi; clear hg hi))
          exact ⟨KeepsFrom.of_grownBy HG6.out (fun j e => by cases e; exact hlr), fun hw => ⟨fun k hk => by rw [hk]; exact lt_of_heap HI6.out.hr, HG6.out.os, HG6.out.tape, HG6.out.output, HG6.out.size, fun k o m hk _ => ⟨(HG6.out.block k (lt_of_heap hk) (fun e => m (Option.some.inj e))).trans hk, m⟩⟩, ⟨b, HPC.out, by have := HHOM.out.vc; have := HA.out; omega, HI6.out⟩, HG5.out.andThen HG6.out (fun j e => .inr e), heap_but HG6.out HK5.out (by omega)⟩
      case done =>
        rintro D xs W hD hS ⟨⟨a, h1, h2, h3⟩, h4, h5⟩ hdef
        have HS2 : Hid (standB r.u r.v r.h r.t = (decide (a = r.v.code.length) && grdsB r.u r.v r.t)) := hid (by rw [HS.out, ← hS, h1]; congr 1)
        have HI7 := hid h3
        have HG7 := hid h4
        have HD7 := hid hdef
        have v1 := cellO h5
        have HX7 := hid h5
        have k13 := h3.k13
        have k17 := h3.k17
        clear h1 h3 h4 h5 hdef hS hseq
        dsimp only
        refine WpAt.seq (n := 20) (WpAt.of (n := 20) (wpIn_wide.2 ?_))
        cases hq : ((a : Int) == (r.v.code.length : Int)) with
        | false =>
          have hdc : decide (a = r.v.code.length) = false := decide_eq_false (fun e => by rw [e] at hq; simp at hq)
          go_upto_region 6 with fail
          go_still_tail 11, (by kernel_rfl)
          change wpList _ _ _ _ _ W.drew
          go_wp2_with (first
            | (go_at_call 185; (with_reducible refine (must_no _).mono ?_); rintro e w' ⟨rfl, rfl⟩))
          refine leaves_markP HD7.out ?_
          exact ⟨gB_putObj (HG7.out.andThen (grown_ofB (bdrew _) (some w0.heap.size)) (fun j e => .inr e)) (by omega) _, by rw [HS2.out, hdc]; rfl⟩
        | true =>
          go_upto_region 6 with fail
          go_still_tail 11, (by kernel_rfl)
          change wpList _ _ _ _ _ W.drew
          go_wp2_with (first
            | (go_at_call 185; (with_reducible refine (must_yes _).mono ?_); rintro e w' ⟨rfl, rfl⟩))
          have e : decide (a = r.v.code.length) = true := decide_eq_true (by have := eq_of_beq hq; omega)
          rw [e, Bool.true_and] at HS2
          clear k13 k17 v1
          have HG8 := hid (HG7.out.andThen (grown_ofB (bdrew W) (some w0.heap.size)) (fun j e => .inr e))
          have HI8 := hid (HI7.out.below (bdrew W))
          have HX8 := hid (keepBox (bdrew W) HX7.out)
          have HD8 := hid (keepBox (bdrew W) HD7.out)
          generalize W.drew = W8 at *
          have v1 := cellO HX8.out
          have HC8 := hid (guards_any w0 r a W8 HM.out HI8.out (writ_plain HWR.out) HHOM.out.tl hvg hv)
          refine WpAt.of (n := 20) (wpIn_wide.2 ?_)
          cases hgd : grdsB r.u r.v r.t with
          | false =>
            rw [hgd, if_neg (by simp)] at HC8
            go_wp2_with (first
              | (go_at_call 186; (with_reducible refine HC8.out.mono ?_); rintro e w9 ⟨hg, rfl⟩; have HG9 := hid (HG8.out.andThen hg (fun j e => .inr e)); have HR9 := hid hg; clear hg))
            refine leaves_markP (heap_but HR9.out HD8.out (by omega)) ?_
            exact ⟨gB_putObj HG9.out (by omega) _, by rw [HS2.out, hgd]; rfl⟩
          | true =>
            rw [hgd, if_pos rfl] at HC8
            go_wp2_with (first
              | (go_at_call 186; (with_reducible refine HC8.out.mono ?_); rintro e w9 ⟨hg, rfl, hi⟩; have HG9 := hid (HG8.out.andThen hg (fun j e => .inr e)); have HR9 := hid hg; clear hg hi))
            refine leaves_mark1 (heap_but HR9.out HD8.out (by omega)) ⟨.tuple #[], ?_, gB_putObj HG9.out (by omega) _, by rw [HS2.out, hgd]; rfl⟩
            simp [results, Tryz.results133, go_sem]
      case panic =>
        rintro D ch pre W hD hpre ⟨rfl, h1, h2⟩ hdef
        have HS2 : Hid (standB r.u r.v r.h r.t = false) := hid (by rw [HS.out, grpsChk_prefix hpre h1]; rfl)
        refine leaves_markP hdef ?_
        exact ⟨gB_putObj h2 (by omega) _, by rw [HS2.out]; rfl⟩

theorem neNil (w : World) : (binOp .neq 20 (.iface 175 (.agg #[])) .nilIface).run Tryz.prog w = .ok (.bool true) w := by kernel_rfl
theorem nilNil (w : World) : (binOp .neq 20 .nilIface .nilIface).run Tryz.prog w = .ok (.bool false) w := by kernel_rfl
theorem asWrong (w : World) : (Instr.typeAssert (.iface 175 (.agg #[])) 20 175 true).run Tryz.prog w = .ok (.tuple #[.agg #[], .bool true]) w := by kernel_rfl
set_option maxRecDepth 100000 in
set_option maxHeartbeats 1000000 in
theorem catch_wrong (p : Addr) (x : Bool) (w : World) (hc : w.cell? p = some (.bool x)) (hz : w.frozen? p = false) (hp : p.block < w.heap.size) :
    CallsD Tryz.prog 132 #[.pointer (some p)] (.panicking wrongP) w fun e u' w' =>
      e = .returned (.tuple #[]) ∧ u' = .panicking [{ v := .iface 175 (.agg #[]), recovered := true }] ∧ ∃ o, w' = (w.alloc o).setCell p (.bool false) := by
  have q2 := neNil
  have q3 := asWrong
  unfold wrongP
  refine callsD_of_wpS Tryz.func132 rfl fun c₀ cs hu => ?_
  apply wpS_seq
  apply wpS_region
  simp [wpOpsS, go_sem, recoverD, hu, Tryz.ntmps132, Exit.thenS]
  apply wpS_seq
  apply wpS_region
  simp [wpOpsS, go_sem, q2, Exit.thenS]
  refine wpS_cond (t := true) (by simp [Act.eval, Array.replicate]) ?_
  simp only [if_true]
  apply wpS_seq
  apply wpS_seq
  apply wpS_region
  simp [wpOpsS, go_sem, q3, Exit.thenS]
  apply wpS_seq
  apply wpS_region
  simp [wpOpsS, go_sem, Exit.thenS]
  refine wpS_cond (t := false) (by simp [Act.eval, Array.replicate]) ?_
  simp only [Bool.false_eq_true, if_false]
  refine wpS_of_wp (wp_skip ?_)
  apply wpS_region
  have hc2 := cell_later (bnew w (.cells #[] 175)) hc
  have hz2 : (w.alloc (.cells #[] 175)).frozen? p = false := ((bnew w (.cells #[] 175)).frozen hp).trans hz
  simp [wpOpsS, go_sem, hc2, hz2, bodyPostS, results, Tryz.results132]
  exact ⟨_, rfl⟩
set_option maxRecDepth 100000 in
set_option maxHeartbeats 1000000 in
theorem catch_idle (p : Addr) (w : World) :
    CallsD Tryz.prog 132 #[.pointer (some p)] .returning w fun e u' w' => e = .returned (.tuple #[]) ∧ u' = .returning ∧ w' = w := by
  have q3 := nilNil
  refine callsD_of_wpS Tryz.func132 rfl fun c₀ cs hu => ?_
  apply wpS_seq
  apply wpS_region
  simp [wpOpsS, go_sem, recoverD, hu, Tryz.ntmps132, Exit.thenS]
  apply wpS_seq
  apply wpS_region
  simp [wpOpsS, go_sem, q3, Exit.thenS]
  refine wpS_cond (t := false) (by simp [Act.eval, Array.replicate]) ?_
  simp only [Bool.false_eq_true, if_false]
  refine wpS_of_wp (wp_skip ?_)
  cases c₀
  simp_all [bodyPostS, results, Tryz.results132]

/-- Homes, as they are handed over. -/
abbrev vHm (ha : Option Addr) (h : List Int) (hc : Nat) (ta : Option Addr) (t : List Int) (tc : Nat) : Value := .agg #[.slice ha h.length hc, .slice ta t.length tc]
/-- What stands keeps in memory. -/
structure StI (w : World) (u v : UntN) (h t : List Int) (ca : Option Addr) (cc : Nat) (ga : Option Addr) (gc : Nat) (da : Option Addr) (dc : Nat) (ea : Option Addr) (ec : Nat) (ha : Option Addr) (hc : Nat) (ta : Option Addr) (tc : Nat) (wr : World) : Prop where
  hb : Below w.heap.size w wr
  hu : wr.heap[w.heap.size]? = some (oU u ca cc ga gc)
  hv : wr.heap[w.heap.size + 1]? = some (oU v da dc ea ec)
  hh : wr.heap[w.heap.size + 1 + 1]? = some (.cells #[.slice ha h.length hc, .slice ta t.length tc] 30)
  hr : wr.heap[w.heap.size + 1 + 1 + 1]? = some (.cells #[.bool false] 4)
theorem StI.below {w : World} {u v : UntN} {h t : List Int} {ca : Option Addr} {cc : Nat} {ga : Option Addr} {gc : Nat} {da : Option Addr} {dc : Nat} {ea : Option Addr} {ec : Nat} {ha : Option Addr} {hc : Nat} {ta : Option Addr} {tc : Nat} {wr wr' : World} (s : StI w u v h t ca cc ga gc da dc ea ec ha hc ta tc wr) (hb : Below wr.heap.size wr wr') : StI w u v h t ca cc ga gc da dc ea ec ha hc ta tc wr' :=
  ⟨s.hb.step hb, keepBox hb s.hu, keepBox hb s.hv, keepBox hb s.hh, keepBox hb s.hr⟩
set_option maxRecDepth 100000 in
set_option maxHeartbeats 8000000 in
theorem stands_any (u v : UntN) (h t : List Int) (ca : Option Addr) (cc : Nat) (ga : Option Addr) (gc : Nat) (da : Option Addr) (dc : Nat) (ea : Option Addr) (ec : Nat) (ha : Option Addr) (hc : Nat) (ta : Option Addr) (tc : Nat) (w : World)
    (mu : UnM w u ca cc ga gc) (mv : UnM w v da dc ea ec) (mh : RdI w ha h) (mt : RdI w ta t) (hw : writB u = true) (hh : h.length ≤ 1000000) (ht : t.length ≤ 1000000) (hv : v.code.length ≤ 1000000) (hvg : v.guards.length ≤ 1000000) (hvb : ∀ y ∈ v.code, -9223372036854775808 ≤ y.b ∧ y.b ≤ 9223372036854775807) (hwf : ∀ x ∈ h, -9223372036854775808 ≤ x ∧ x ≤ 9223372036854775807) :
    Calls Tryz.prog 62 #[vU u ca cc ga gc, vU v da dc ea ec, vHm ha h hc ta t tc] w (RetB (.bool (standB u v h t)) w) := by
  have hmf : ∀ (fn : Fn) (first cap : Array Value) (w : World), (Instr.makeFunc fn first cap).run Tryz.prog w = .ok (.func fn first cap) w := fun _ _ _ _ => rfl
  have HMU := hid mu; have HMV := hid mv; have HMH := hid mh; have HMT := hid mt
  have HFO := hid (fun w' (hb : Below w.heap.size w w') => flowOf_any u ca cc ga gc w' (HMU.out.below hb) hw)
  have HWF := hid hwf
  have HVB := hid hvb
  have HWR := hid hw
  clear mu mv mh mt hwf hw hvb
  have HI := hid (show StI w u v h t ca cc ga gc da dc ea ec ha hc ta tc ((((w.alloc (oU u ca cc ga gc)).alloc (oU v da dc ea ec)).alloc (.cells #[.slice ha h.length hc, .slice ta t.length tc] 30)).alloc (.cells #[.bool false] 4)) from
    ⟨(((bnew _ _).step (bnew _ _)).step (bnew _ _)).step (bnew _ _), keepBox (bnew _ _) (keepBox (bnew _ _) (keepBox (bnew _ _) (heapn _ _ _ rfl))), keepBox (bnew _ _) (keepBox (bnew _ _) (heapn _ _ _ (by simp))), keepBox (bnew _ _) (heapn _ _ _ (by simp)), heapn _ _ _ (by simp)⟩)
  obtain ⟨wa, hwa⟩ : ∃ wa, wa = (((w.alloc (oU u ca cc ga gc)).alloc (oU v da dc ea ec)).alloc (.cells #[.slice ha h.length hc, .slice ta t.length tc] 30)).alloc (.cells #[.bool false] 4) := ⟨_, rfl⟩
  rw [← hwa] at HI
  obtain ⟨k0, k1, k2, k3, k4, k5, k6⟩ := box7 HI.out.hu
  obtain ⟨v0, v1, v2, v3, v4, v5, v6⟩ := box7 HI.out.hv
  obtain ⟨h0, h1, _, _⟩ := box2 HI.out.hh
  have HS : Hid (∀ W, Below wa.heap.size wa W → W.cell? ⟨w.heap.size, 0, none⟩ = some (.string u.cls) ∧ W.cell? ⟨w.heap.size, 1, none⟩ = some (.string u.name) ∧ W.cell? ⟨w.heap.size, 2, none⟩ = some (.int .i64 u.args) ∧ W.cell? ⟨w.heap.size, 3, none⟩ = some (.int .i64 u.slots) ∧ W.cell? ⟨w.heap.size, 4, none⟩ = some (.int .i64 u.frame) ∧ W.cell? ⟨w.heap.size, 5, none⟩ = some (.slice ca u.code.length cc) ∧ W.cell? ⟨w.heap.size, 6, none⟩ = some (.slice ga u.guards.length gc) ∧ W.cell? ⟨w.heap.size + 1, 0, none⟩ = some (.string v.cls) ∧ W.cell? ⟨w.heap.size + 1, 1, none⟩ = some (.string v.name) ∧ W.cell? ⟨w.heap.size + 1, 2, none⟩ = some (.int .i64 v.args) ∧ W.cell? ⟨w.heap.size + 1, 3, none⟩ = some (.int .i64 v.slots) ∧ W.cell? ⟨w.heap.size + 1, 4, none⟩ = some (.int .i64 v.frame) ∧ W.cell? ⟨w.heap.size + 1, 5, none⟩ = some (.slice da v.code.length dc) ∧ W.cell? ⟨w.heap.size + 1, 6, none⟩ = some (.slice ea v.guards.length ec) ∧ W.cell? ⟨w.heap.size + 1 + 1, 0, none⟩ = some (.slice ha h.length hc) ∧ W.cell? ⟨w.heap.size + 1 + 1, 1, none⟩ = some (.slice ta t.length tc)) := hid (fun W hb => ⟨cell_later hb k0, cell_later hb k1, cell_later hb k2, cell_later hb k3, cell_later hb k4, cell_later hb k5, cell_later hb k6, cell_later hb v0, cell_later hb v1, cell_later hb v2, cell_later hb v3, cell_later hb v4, cell_later hb v5, cell_later hb v6, cell_later hb h0, cell_later hb h1⟩)
  cases hs : standB u v h t with
  | true =>
    go_enter_defers Tryz.func62, Tryz.ntmps62
    go_upto_region 2 with fail
    rw [← hwa]
    clear hwa
    go_region_held3 (fun W => W.cell? ⟨w.heap.size, 0, none⟩ = some (.string u.cls) ∧ W.cell? ⟨w.heap.size, 1, none⟩ = some (.string u.name) ∧ W.cell? ⟨w.heap.size, 2, none⟩ = some (.int .i64 u.args) ∧ W.cell? ⟨w.heap.size, 3, none⟩ = some (.int .i64 u.slots) ∧ W.cell? ⟨w.heap.size, 4, none⟩ = some (.int .i64 u.frame) ∧ W.cell? ⟨w.heap.size, 5, none⟩ = some (.slice ca u.code.length cc) ∧ W.cell? ⟨w.heap.size, 6, none⟩ = some (.slice ga u.guards.length gc) ∧ W.cell? ⟨w.heap.size + 1, 0, none⟩ = some (.string v.cls) ∧ W.cell? ⟨w.heap.size + 1, 1, none⟩ = some (.string v.name) ∧ W.cell? ⟨w.heap.size + 1, 2, none⟩ = some (.int .i64 v.args) ∧ W.cell? ⟨w.heap.size + 1, 3, none⟩ = some (.int .i64 v.slots) ∧ W.cell? ⟨w.heap.size + 1, 4, none⟩ = some (.int .i64 v.frame) ∧ W.cell? ⟨w.heap.size + 1, 5, none⟩ = some (.slice da v.code.length dc) ∧ W.cell? ⟨w.heap.size + 1, 6, none⟩ = some (.slice ea v.guards.length ec) ∧ W.cell? ⟨w.heap.size + 1 + 1, 0, none⟩ = some (.slice ha h.length hc) ∧ W.cell? ⟨w.heap.size + 1 + 1, 1, none⟩ = some (.slice ta t.length tc))
      (first | exact HS.out _ (bdrew _) | exact HS.out _ hb5 | exact HS.out _ (hb5.step (bnew _ _)))
      ((go_at_call 48; (with_reducible refine (HFO.out _ (HI.out.hb.step (bdrew _))).mono ?_); rintro e w5 ⟨hb, v5, rfl, ho⟩; obtain ⟨va, vc, rfl, hrl⟩ := ho.rd; have hb5 := (bdrew wa).step hb; have HL5 := hid hrl; clear hb ho hrl))
    have HI5 := hid (HI.out.below hb5)
    clear HS HFO k0 k1 k2 k3 k4 k5 k6 v0 v1 v2 v3 v4 v5 v6 h0 h1
    obtain ⟨w6, hw6⟩ : ∃ w6, w6 = w5.alloc (Obj.cells #[.string u.cls, .string u.name, .int .i64 u.args, .int .i64 u.slots, .int .i64 u.frame, .slice ca u.code.length cc, .slice ga u.guards.length gc, .slice va (liveL u).length vc, .string v.cls, .string v.name, .int .i64 v.args, .int .i64 v.slots, .int .i64 v.frame, .slice da v.code.length dc, .slice ea v.guards.length ec, .slice ha h.length hc, .slice ta t.length tc, .int .i64 0] 179) := ⟨_, rfl⟩
    rw [← hw6]
    have HCK := hid (check_any w5 ⟨u, v, h, t, ca, cc, ga, gc, va, vc, da, dc, ea, ec, ha, hc, ta, tc⟩ w6 ⟨HMU.out.below HI5.out.hb, HL5.out, HMV.out.below HI5.out.hb, HMH.out.below HI5.out.hb, HMT.out.below HI5.out.hb⟩ (by rw [hw6]; exact ⟨bnew _ _, heapn _ _ _ rfl⟩) HWR.out hh ht hv hvg HVB.out HWF.out)
    have HI6 : Hid (StI w u v h t ca cc ga gc da dc ea ec ha hc ta tc w6) := hid (by rw [hw6]; exact HI5.out.below (bnew _ _))
    have HZ5 := hid (lt_of_heap HI5.out.hr)
    clear hw6
    dsimp only at HCK
    rw [hs] at HCK
    go_wp2_with (first
      | (go_at_call 133; (with_reducible refine HCK.out.mono ?_); rintro e w7 ⟨hg, rfl⟩; have HX7 := hid (box_kept hg HI6.out.hr (fun e => by have e2 := Option.some.inj e; have := HZ5.out; omega)); have HB7 := hid (HI6.out.hb.grown hg HI6.out.hb.size (fun r e => by cases e; have := HZ5.out; omega)); have kc := cellO HX7.out; have kf := froz_in (k := 0) HX7.out; clear hg))
    refine leaves_cons (f := 132) (args := #[.pointer (some ⟨w.heap.size + 1 + 1 + 1, 0, none⟩)]) (by simp) (by simp [go_sem]) ?_
    refine (catch_idle ⟨w.heap.size + 1 + 1 + 1, 0, none⟩ _).mono ?_
    rintro e u' w2 ⟨rfl, rfl, rfl⟩
    have HB := hid (Below.setCell HB7.out (p := ⟨w.heap.size + 1 + 1 + 1, 0, none⟩) (by show w.heap.size ≤ w.heap.size + 1 + 1 + 1; omega) (.bool true))
    have kd : (w7.setCell ⟨w.heap.size + 1 + 1 + 1, 0, none⟩ (.bool true)).cell? ⟨w.heap.size + 1 + 1 + 1, 0, none⟩ = some (.bool true) := cell_in (heap_setCell_same _ _ 0 _ _ _ HX7.out) rfl
    simp [Leaves, settle, results, Tryz.results62, go_sem]
    rw [kd]
    exact ⟨_, rfl, rfl, HB.out⟩
  | false =>
    go_enter_defers Tryz.func62, Tryz.ntmps62
    go_upto_region 2 with fail
    rw [← hwa]
    clear hwa
    go_region_held3 (fun W => W.cell? ⟨w.heap.size, 0, none⟩ = some (.string u.cls) ∧ W.cell? ⟨w.heap.size, 1, none⟩ = some (.string u.name) ∧ W.cell? ⟨w.heap.size, 2, none⟩ = some (.int .i64 u.args) ∧ W.cell? ⟨w.heap.size, 3, none⟩ = some (.int .i64 u.slots) ∧ W.cell? ⟨w.heap.size, 4, none⟩ = some (.int .i64 u.frame) ∧ W.cell? ⟨w.heap.size, 5, none⟩ = some (.slice ca u.code.length cc) ∧ W.cell? ⟨w.heap.size, 6, none⟩ = some (.slice ga u.guards.length gc) ∧ W.cell? ⟨w.heap.size + 1, 0, none⟩ = some (.string v.cls) ∧ W.cell? ⟨w.heap.size + 1, 1, none⟩ = some (.string v.name) ∧ W.cell? ⟨w.heap.size + 1, 2, none⟩ = some (.int .i64 v.args) ∧ W.cell? ⟨w.heap.size + 1, 3, none⟩ = some (.int .i64 v.slots) ∧ W.cell? ⟨w.heap.size + 1, 4, none⟩ = some (.int .i64 v.frame) ∧ W.cell? ⟨w.heap.size + 1, 5, none⟩ = some (.slice da v.code.length dc) ∧ W.cell? ⟨w.heap.size + 1, 6, none⟩ = some (.slice ea v.guards.length ec) ∧ W.cell? ⟨w.heap.size + 1 + 1, 0, none⟩ = some (.slice ha h.length hc) ∧ W.cell? ⟨w.heap.size + 1 + 1, 1, none⟩ = some (.slice ta t.length tc))
      (first | exact HS.out _ (bdrew _) | exact HS.out _ hb5 | exact HS.out _ (hb5.step (bnew _ _)))
      ((go_at_call 48; (with_reducible refine (HFO.out _ (HI.out.hb.step (bdrew _))).mono ?_); rintro e w5 ⟨hb, v5, rfl, ho⟩; obtain ⟨va, vc, rfl, hrl⟩ := ho.rd; have hb5 := (bdrew wa).step hb; have HL5 := hid hrl; clear hb ho hrl))
    have HI5 := hid (HI.out.below hb5)
    clear HS HFO k0 k1 k2 k3 k4 k5 k6 v0 v1 v2 v3 v4 v5 v6 h0 h1
    obtain ⟨w6, hw6⟩ : ∃ w6, w6 = w5.alloc (Obj.cells #[.string u.cls, .string u.name, .int .i64 u.args, .int .i64 u.slots, .int .i64 u.frame, .slice ca u.code.length cc, .slice ga u.guards.length gc, .slice va (liveL u).length vc, .string v.cls, .string v.name, .int .i64 v.args, .int .i64 v.slots, .int .i64 v.frame, .slice da v.code.length dc, .slice ea v.guards.length ec, .slice ha h.length hc, .slice ta t.length tc, .int .i64 0] 179) := ⟨_, rfl⟩
    rw [← hw6]
    have HCK := hid (check_any w5 ⟨u, v, h, t, ca, cc, ga, gc, va, vc, da, dc, ea, ec, ha, hc, ta, tc⟩ w6 ⟨HMU.out.below HI5.out.hb, HL5.out, HMV.out.below HI5.out.hb, HMH.out.below HI5.out.hb, HMT.out.below HI5.out.hb⟩ (by rw [hw6]; exact ⟨bnew _ _, heapn _ _ _ rfl⟩) HWR.out hh ht hv hvg HVB.out HWF.out)
    have HI6 : Hid (StI w u v h t ca cc ga gc da dc ea ec ha hc ta tc w6) := hid (by rw [hw6]; exact HI5.out.below (bnew _ _))
    have HZ5 := hid (lt_of_heap HI5.out.hr)
    clear hw6
    dsimp only at HCK
    rw [hs] at HCK
    go_wp2_with (first
      | (go_at_call 133; (with_reducible refine HCK.out.mono ?_); rintro e w7 ⟨hg, rfl⟩; have HX7 := hid (box_kept hg HI6.out.hr (fun e => by have e2 := Option.some.inj e; have := HZ5.out; omega)); have HB7 := hid (HI6.out.hb.grown hg HI6.out.hb.size (fun r e => by cases e; have := HZ5.out; omega)); have kc := cellO HX7.out; have kf := froz_in (k := 0) HX7.out; clear hg))
    refine leaves_cons (f := 132) (args := #[.pointer (some ⟨w.heap.size + 1 + 1 + 1, 0, none⟩)]) (by simp) (by simp [go_sem]) ?_
    refine (catch_wrong ⟨w.heap.size + 1 + 1 + 1, 0, none⟩ false _ kc kf (lt_of_heap HX7.out)).mono ?_
    rintro e u' w2 ⟨rfl, rfl, oz, rfl⟩
    have HX8 := hid (keepBox (bnew w7 oz) HX7.out)
    have HB := hid (Below.setCell (HB7.out.step (bnew w7 oz)) (p := ⟨w.heap.size + 1 + 1 + 1, 0, none⟩) (by show w.heap.size ≤ w.heap.size + 1 + 1 + 1; omega) (.bool false))
    have kd : ((w7.alloc oz).setCell ⟨w.heap.size + 1 + 1 + 1, 0, none⟩ (.bool false)).cell? ⟨w.heap.size + 1 + 1 + 1, 0, none⟩ = some (.bool false) := cell_in (heap_setCell_same _ _ 0 _ _ _ HX8.out) rfl
    simp [Leaves, settle, results, Tryz.results62, go_sem]
    rw [kd]
    exact ⟨_, rfl, rfl, HB.out⟩
set_option maxRecDepth 100000 in
set_option maxHeartbeats 8000000 in
theorem checkRegs_any (u v : UntN) (h t : List Int) (ca : Option Addr) (cc : Nat) (ga : Option Addr) (gc : Nat) (da : Option Addr) (dc : Nat) (ea : Option Addr) (ec : Nat) (ha : Option Addr) (hc : Nat) (ta : Option Addr) (tc : Nat) (w : World)
    (mu : UnM w u ca cc ga gc) (mv : UnM w v da dc ea ec) (mh : RdI w ha h) (mt : RdI w ta t) (huc : u.code.length ≤ 1000000) (hug : u.guards.length ≤ 1000000) (hh : h.length ≤ 1000000) (ht : t.length ≤ 1000000) (hv : v.code.length ≤ 1000000) (hvg : v.guards.length ≤ 1000000) (hvb : ∀ y ∈ v.code, -9223372036854775808 ≤ y.b ∧ y.b ≤ 9223372036854775807) (hwf : ∀ x ∈ h, -9223372036854775808 ≤ x ∧ x ≤ 9223372036854775807) :
    Calls Tryz.prog 18 #[vU u ca cc ga gc, vU v da dc ea ec, vHm ha h hc ta t tc] w (RetB (.int .i64 (chkRegs u v h t)) w) := by
  have HWT := hid (fun w' hb => writable_any u ca cc ga gc w' (mu.below hb) huc hug)
  have HST := hid (fun w' hb (hw : writB u = true) => stands_any u v h t ca cc ga gc da dc ea ec ha hc ta tc w' (mu.below hb) (mv.below hb) (mh.below hb) (mt.below hb) hw hh ht hv hvg hvb hwf)
  have HB := hid (((bnew w (oU u ca cc ga gc)).step (bnew _ (oU v da dc ea ec))).step (bnew _ (.cells #[.slice ha h.length hc, .slice ta t.length tc] 30)))
  have HU := hid (show ((((w.alloc (oU u ca cc ga gc)).alloc (oU v da dc ea ec)).alloc (.cells #[.slice ha h.length hc, .slice ta t.length tc] 30)).heap[w.heap.size]? = some (oU u ca cc ga gc)) from keepBox (bnew _ _) (keepBox (bnew _ _) (heapn _ _ _ rfl)))
  have HV := hid (show ((((w.alloc (oU u ca cc ga gc)).alloc (oU v da dc ea ec)).alloc (.cells #[.slice ha h.length hc, .slice ta t.length tc] 30)).heap[w.heap.size + 1]? = some (oU v da dc ea ec)) from keepBox (bnew _ _) (heapn _ _ _ (by simp)))
  have HH := hid (show ((((w.alloc (oU u ca cc ga gc)).alloc (oU v da dc ea ec)).alloc (.cells #[.slice ha h.length hc, .slice ta t.length tc] 30)).heap[w.heap.size + 1 + 1]? = some (.cells #[.slice ha h.length hc, .slice ta t.length tc] 30)) from heapn _ _ _ (by simp))
  clear mu mv mh mt huc hug hh ht hv hvg hvb hwf
  obtain ⟨wa, hwa⟩ : ∃ wa, wa = ((w.alloc (oU u ca cc ga gc)).alloc (oU v da dc ea ec)).alloc (.cells #[.slice ha h.length hc, .slice ta t.length tc] 30) := ⟨_, rfl⟩
  rw [← hwa] at HB HU HV HH
  go_enter Tryz.func18, Tryz.ntmps18
  go_upto_region 1 with fail
  rw [← hwa]
  clear hwa
  obtain ⟨k0, k1, k2, k3, k4, k5, k6⟩ := box7 HU.out
  cases hw : writB u with
  | false =>
    rw [hw] at HWT
    go_wp2_with (first
      | (go_at_call 42; (with_reducible refine (HWT.out _ HB.out).mono ?_); rintro e w2 ⟨rfl, hb⟩; have HB2 := hid (HB.out.step hb); clear hb))
    go_ret
    exact ⟨by simp [chkRegs, hw], HB2.out⟩
  | true =>
    rw [hw] at HWT HST
    go_upto_region 3 with (first
      | (go_at_call 42; (with_reducible refine (HWT.out _ HB.out).mono ?_); rintro e w2 ⟨rfl, hb⟩; have HB2 := hid (HB.out.step hb); have HU2 := hid (keepBox hb HU.out); have HV2 := hid (keepBox hb HV.out); have HH2 := hid (keepBox hb HH.out); clear hb))
    clear k0 k1 k2 k3 k4 k5 k6
    obtain ⟨k0, k1, k2, k3, k4, k5, k6⟩ := box7 HU2.out
    obtain ⟨v0, v1, v2, v3, v4, v5, v6⟩ := box7 HV2.out
    obtain ⟨h0, h1, _, _⟩ := box2 HH2.out
    cases hs : standB u v h t with
    | false =>
      rw [hs] at HST
      go_wp2_with (first
        | (go_at_call 62; (with_reducible refine (HST.out _ HB2.out trivial).mono ?_); rintro e w3 ⟨rfl, hb⟩; have HB3 := hid (HB2.out.step hb); clear hb))
      go_ret
      exact ⟨by simp [chkRegs, hw, hs], HB3.out⟩
    | true =>
      rw [hs] at HST
      go_wp2_with (first
        | (go_at_call 62; (with_reducible refine (HST.out _ HB2.out trivial).mono ?_); rintro e w3 ⟨rfl, hb⟩; have HB3 := hid (HB2.out.step hb); clear hb))
      go_ret
      exact ⟨by simp [chkRegs, hw, hs], HB3.out⟩
end Go.Proofs.YtgalekifgnecjaaGreat
