/- The reader's group of package regs: the walk. -/
import Derived.Test.YtgalekifgnecjaaGreatT22
import Derived.Test.YtgalekifgnecjaaGreatT10
import Derived.BigQuiet
namespace Go.Proofs.YtgalekifgnecjaaGreat
open Go.RowKit Go.Shelf
attribute [local go_sem] Oper.semAt_some
attribute [local irreducible] wpStill
set_option maxRecDepth 100000 in
set_option maxHeartbeats 60000000 in
theorem rgroup_any (w0 : World) (r : RdrN) (a : Nat) (x : GrX) (w : World) (hm : RdrM w0 r) (h : RI w0 r a w) (hw : writB r.u = true) (hx : x.g ∈ groupsL r.u) (hr : RdI w x.a x.g.reads) (hxb : ∀ b off, x.a = some ⟨b, off, none⟩ → b < w.heap.size ∧ b ≠ w0.heap.size) (hom : homedB r.u r.v r.h r.t = true) (ha : a ≤ 1000) (hvb : ∀ y ∈ r.v.code, -9223372036854775808 ≤ y.b ∧ y.b ≤ 9223372036854775807) :
    Calls Tryz.prog 184 #[.pointer (some ⟨w0.heap.size, 0, none⟩), vGr x] w (RP w0 r (grpChk r.u r.v (liveL r.u) r.h r.t a x.g) w) := by
  have hok := groups_ok hw hx
  have hho := homed_ok hw hom
  have hn6 := writ_len hw
  have hgo := live_good r.u
  have hg40 := (plain_leads (writ_plain hw)).2.2.1
  have HM := hid hm
  have HVB := hid hvb
  have HR := hid hr
  have HXB := hid hxb
  have HOM := hid hho
  have HOK := hid hok
  have HWT := hid hw
  have HGO := hid hgo
  have htil := hok.lt
  have hfrm := hok.le
  have hlt0 := lt_of_heap h.hr
  have HI := hid (show GpI w0 r a w.heap.size (w.heap.size + 1) x ((w.alloc (.cells #[.pointer (some ⟨w0.heap.size, 0, none⟩)] 177)).alloc (.cells #[.int .i64 x.g.frm, .int .i64 x.g.til, .slice x.a x.g.reads.length x.c, .int .i64 x.g.wr] 107)) from
    ⟨h.below ((bnew _ _).step (bnew _ _)), keepBox (bnew _ _) (heapn _ _ _ rfl), heapn _ _ _ (by simp)⟩)
  obtain ⟨o, ho⟩ : ∃ o, o = grpChk r.u r.v (liveL r.u) r.h r.t a x.g := ⟨_, rfl⟩
  rw [← ho]
  have HO := hid ho
  clear ho hm hvb h hr hxb hom hok hx hho hw hgo
  obtain ⟨wa, hwa⟩ : ∃ wa, wa = (w.alloc (.cells #[.pointer (some ⟨w0.heap.size, 0, none⟩)] 177)).alloc (.cells #[.int .i64 x.g.frm, .int .i64 x.g.til, .slice x.a x.g.reads.length x.c, .int .i64 x.g.wr] 107) := ⟨_, rfl⟩
  obtain ⟨b1, hb1⟩ : ∃ b, b = w.heap.size := ⟨_, rfl⟩
  rw [← hwa, ← hb1] at HI
  have HWA : Hid (Below w.heap.size w wa) := hid (by rw [hwa]; exact (bnew _ _).step (bnew _ _))
  have HZ0 : Hid (w0.heap.size < b1 ∧ b1 = w.heap.size ∧ b1 + 2 = wa.heap.size) := hid (by rw [hwa, hb1]; simp; exact hlt0)
  clear hlt0
  have HNX := hid (fun (w' : World) (hb : Below w0.heap.size w0 w') => nextF_any r.u x.g.til htil hn6 (by omega) r.ca r.cc r.ga r.gc r.va (liveL r.u).length r.vc w' (HM.out.below hb).mu)
  have HND := hid (fun (pa : Option Addr) (pc : Nat) (w' : World) (hb : Below w0.heap.size w0 w') (hr : RdI w' pa (nextL r.u x.g.til)) => neededF_any r.u r.ca r.cc r.ga r.gc (liveL r.u) r.va r.vc (nextL r.u x.g.til) pa pc w' (HM.out.below hb).ml hr (by rw [HGO.out.len]; exact nextL_in (writ_plain HWT.out) htil) (by have := nextL_len r.u x.g.til; omega) (live_few HWT.out))
  go_enter Tryz.func184, Tryz.ntmps184
  go_upto_region 1 with fail
  rw [← hb1, ← hwa]
  clear hwa hb1
  have c1 := cellO HI.out.h1
  obtain ⟨g0, g1, g2, g3⟩ := box4 HI.out.h2
  have kk : ∀ k v, (#[.string r.u.cls, .string r.u.name, .int .i64 r.u.args, .int .i64 r.u.slots, .int .i64 r.u.frame, .slice r.ca r.u.code.length r.cc, .slice r.ga r.u.guards.length r.gc, .slice r.va (liveL r.u).length r.vc,
  .string r.v.cls, .string r.v.name, .int .i64 r.v.args, .int .i64 r.v.slots, .int .i64 r.v.frame, .slice r.da r.v.code.length r.dc, .slice r.ea r.v.guards.length r.ec, .slice r.ha r.h.length r.hc, .slice r.ta r.t.length r.tc, Value.int .i64 a] : Array Value)[k]? = some v → wa.cell? ⟨w0.heap.size, k, none⟩ = some v := fun k v hk => (cell_of_row _ _ k _ _ _ HI.out.hi.hr).trans hk
  have k0 := kk 0 _ rfl
  have k1 := kk 1 _ rfl
  have k2 := kk 2 _ rfl
  have k3 := kk 3 _ rfl
  have k4 := kk 4 _ rfl
  have k5 := kk 5 _ rfl
  have k6 := kk 6 _ rfl
  have k7 := kk 7 _ rfl
  clear kk
  obtain ⟨N, hN⟩ : ∃ N, N = grpBehind r.u (liveL r.u) x.g := ⟨_, rfl⟩
  have HNN := hid hN
  rw [show needL (liveL r.u) (nextL r.u x.g.til) = N from hN.symm] at HND
  clear hN
  have HS : Hid (∀ W, Below wa.heap.size wa W → W.cell? ⟨b1, 0, none⟩ = some (.pointer (some ⟨w0.heap.size, 0, none⟩)) ∧ W.cell? ⟨b1 + 1, 1, none⟩ = some (.int .i64 x.g.til) ∧ W.cell? ⟨w0.heap.size, 0, none⟩ = some (.string r.u.cls) ∧ W.cell? ⟨w0.heap.size, 1, none⟩ = some (.string r.u.name) ∧ W.cell? ⟨w0.heap.size, 2, none⟩ = some (.int .i64 r.u.args) ∧ W.cell? ⟨w0.heap.size, 3, none⟩ = some (.int .i64 r.u.slots) ∧ W.cell? ⟨w0.heap.size, 4, none⟩ = some (.int .i64 r.u.frame) ∧ W.cell? ⟨w0.heap.size, 5, none⟩ = some (.slice r.ca r.u.code.length r.cc) ∧ W.cell? ⟨w0.heap.size, 6, none⟩ = some (.slice r.ga r.u.guards.length r.gc) ∧ W.cell? ⟨w0.heap.size, 7, none⟩ = some (.slice r.va (liveL r.u).length r.vc)) := hid (fun W hb => ⟨cell_later hb c1, cell_later hb g1, cell_later hb k0, cell_later hb k1, cell_later hb k2, cell_later hb k3, cell_later hb k4, cell_later hb k5, cell_later hb k6, cell_later hb k7⟩)
  go_cut [4] from 19 to 30 (fun s4 wy => ∃ (b4 : Nat) (na : Option Addr) (nc : Nat), s4 = .pointer (some ⟨b4, 0, none⟩) ∧ Hid (wy.heap[b4]? = some (.cells #[.slice na N.length nc] 28)) ∧ Hid (OwnI wy wa.heap.size (.slice na N.length nc) N) ∧ Hid (Below wa.heap.size wa wy ∧ wa.heap.size ≤ b4))
  case first => as_aux_lemma =>
    clear c1 g0 g1 g2 g3 k0 k1 k2 k3 k4 k5 k6 k7
    have HB0 := hid (HI.out.hi.hb.step (bdrew wa))
    have HB0a := hid ((HI.out.hi.hb.step (bnew wa (.cells #[.slice none 0 0] 28))).step (bdrew _))
    go_region_held3 (fun W => W.cell? ⟨b1, 0, none⟩ = some (.pointer (some ⟨w0.heap.size, 0, none⟩)) ∧ W.cell? ⟨b1 + 1, 1, none⟩ = some (.int .i64 x.g.til) ∧ W.cell? ⟨w0.heap.size, 0, none⟩ = some (.string r.u.cls) ∧ W.cell? ⟨w0.heap.size, 1, none⟩ = some (.string r.u.name) ∧ W.cell? ⟨w0.heap.size, 2, none⟩ = some (.int .i64 r.u.args) ∧ W.cell? ⟨w0.heap.size, 3, none⟩ = some (.int .i64 r.u.slots) ∧ W.cell? ⟨w0.heap.size, 4, none⟩ = some (.int .i64 r.u.frame) ∧ W.cell? ⟨w0.heap.size, 5, none⟩ = some (.slice r.ca r.u.code.length r.cc) ∧ W.cell? ⟨w0.heap.size, 6, none⟩ = some (.slice r.ga r.u.guards.length r.gc) ∧ W.cell? ⟨w0.heap.size, 7, none⟩ = some (.slice r.va (liveL r.u).length r.vc))
      (first | exact HS.out _ (bdrew _) | exact HS.out _ ((bnew _ _).step (bdrew _)) | exact HS.out _ hb8 | exact HS.out _ (hb8.step (bnew _ _)) | exact HS.out _ hb7 | exact HS.out _ (hb7.step (bnew _ _)) | exact HS.out _ (Below.refl _ _) | exact HS.out _ (hb8.setCell (p := ⟨_, 0, none⟩) (by first | exact Nat.le_refl _ | exact hb7.size) _))
      (first
        | (go_at_call 106; (with_reducible refine (HNX.out _ HB0.out).mono ?_); rintro e w7 ⟨hb, v7, rfl, ho7⟩; obtain ⟨pa, pc, rfl, hr7⟩ := ho7.rd; have hb7 := (bdrew wa).step hb; have HO7 := hid ho7; have HR7 := hid hr7; clear hb ho7 hr7)
        | (go_at_call 106; (with_reducible refine (HNX.out _ HB0a.out).mono ?_); rintro e w7 ⟨hb, v7, rfl, ho7⟩; obtain ⟨pa, pc, rfl, hr7⟩ := ho7.rd; have T7 := hid (keepBox (w := (wa.alloc (.cells #[.slice none 0 0] 28)).drew) hb (heapn wa (.cells #[.slice none 0 0] 28) _ rfl)); have t7 := cellO T7.out; have f7 : World.frozen? _ ⟨_, 0, none⟩ = false := froz_in T7.out; have hb7 := ((bnew wa (.cells #[.slice none 0 0] 28)).step (bdrew _)).step hb; have HO7 := hid ho7; have HR7 := hid hr7; have ZA := hid (lt_of_heap T7.out); clear hb ho7 hr7)
        | (go_at_call 72; (with_reducible refine (HND.out pa pc _ (HI.out.hi.hb.step hb7) HR7.out).mono ?_); rintro e w8 ⟨hb, v8, rfl, ho8⟩; obtain ⟨sa, sc, rfl, hrs⟩ := ho8.rd; have T8 := hid (keepBox hb T7.out); have t8 := cellO T8.out; have f8 : World.frozen? _ ⟨_, 0, none⟩ = false := froz_in T8.out; have hb8 := hb7.step hb; have HO8 := hid ho8; clear hb ho8 hrs)
        | (go_at_call 72; (with_reducible refine (HND.out pa pc _ (HI.out.hi.hb.step hb7) HR7.out).mono ?_); rintro e w8 ⟨hb, v8, rfl, ho8⟩; obtain ⟨sa, sc, rfl, hrs⟩ := ho8.rd; have hb8 := hb7.step hb; have HO8 := hid ho8; clear hb ho8 hrs)
        | (go_at_call 72; (with_reducible refine (HND.out pa pc _ ((HI.out.hi.hb.step hb7).step (bnew w7 (.cells #[.slice none 0 0] 28))) (HR7.out.below (bnew _ _))).mono ?_); rintro e w8 ⟨hb, v8, rfl, ho8⟩; obtain ⟨sa, sc, rfl, hrs⟩ := ho8.rd; have T8 := hid (keepBox hb (heapn w7 (.cells #[.slice none 0 0] 28) _ rfl)); have t8 := cellO T8.out; have f8 : World.frozen? _ ⟨_, 0, none⟩ = false := froz_in T8.out; have hb8 := (hb7.step (bnew w7 (.cells #[.slice none 0 0] 28))).step hb; have HO8 := hid ho8; clear hb ho8 hrs))
    all_goals
      go_wp2_with fail
      go_meet
      first
        | exact ⟨wa.heap.size, sa, sc, rfl, hid (heap_setCell_same _ _ 0 _ _ _ T8.out), hid (OwnI.mono (HO8.out.kept (gB_set (row := some wa.heap.size) (b := wa.heap.size) (grown_refl _ _) 0 _ (.inl rfl)) (fun b hb e => by cases e; have h1 := own_ge HO8.out _ hb; have h2 := ZA.out; omega)) (by have := hb7.size; omega)), hid ⟨hb8.setCell (p := ⟨wa.heap.size, 0, none⟩) (Nat.le_refl _) _, Nat.le_refl _⟩⟩
        | exact ⟨w7.heap.size, sa, sc, rfl, hid (heap_setCell_same _ _ 0 _ _ _ T8.out), hid (OwnI.mono (HO8.out.kept (gB_set (row := some w7.heap.size) (b := w7.heap.size) (grown_refl _ _) 0 _ (.inl rfl)) (fun b hb e => by cases e; have h1 := own_ge HO8.out _ hb; rw [World.size_alloc] at h1; omega)) (by have := hb7.size; rw [World.size_alloc]; omega)), hid ⟨hb8.setCell (p := ⟨w7.heap.size, 0, none⟩) hb7.size _, hb7.size⟩⟩
        | exact ⟨w8.heap.size, sa, sc, rfl, hid (heapn _ _ _ rfl), hid (OwnI.mono (OwnI.later HO8.out (bnew _ _)) hb7.size), hid ⟨hb8.step (bnew _ _), hb8.size⟩⟩
  case rest => as_aux_lemma =>
    obtain ⟨b4, na, nc, rfl, T4, HO4, HB4⟩ := hcut
    clear c1 g0 g1 g2 g3 k0 k1 k2 k3 k4 k5 k6 k7 HS HNX HND
    obtain ⟨wd, hwd⟩ : ∃ wd, wd = wc := ⟨_, rfl⟩
    rw [← hwd] at T4 HO4 HB4
    rw [← hwd]
    clear hwd
    have HI4 := hid (HI.out.below HB4.out.1)
    have HW4 : Hid (Below w.heap.size w wd) := hid (HWA.out.step HB4.out.1)
    have c1 := cellO HI4.out.h1
    obtain ⟨g0, g1, g2, g3⟩ := box4 HI4.out.h2
    have k7 := HI4.out.hi.k7
    have t4 := cellO T4.out
    have hfl : x.g.frm < (liveL r.u).length := by rw [HGO.out.len]; omega
    have nfl : (x.g.frm : Int) < ((liveL r.u).length : Int) := by omega
    obtain ⟨bv, ov, li, lic, hva, -, hlc, hlr, -, -⟩ := (HM.out.below HI4.out.hi.hb).ml x.g.frm hfl
    rw [hva] at k7
    have hl200 := live_few HWT.out x.g.frm
    have hnl := needL_len (liveL r.u) 200 (live_few HWT.out) (nextL r.u x.g.til)
    have hnx := nextL_len r.u x.g.til
    have HLF0 := hid (getD_in (d := []) hfl)
    rw [HLF0.out] at hl200
    obtain ⟨LF, hLF⟩ : ∃ L, L = (liveL r.u)[x.g.frm] := ⟨_, rfl⟩
    rw [← hLF] at hlc hlr hl200 HLF0
    have hnl2 : N.length ≤ 600 := by
      have := HNN.out
      unfold grpBehind at this
      rw [this]
      omega
    have HLR := hid hlr
    clear hLF hlr hnl hnx hva
    obtain ⟨NB, hNB⟩ : ∃ NB, NB = addL LF N := ⟨_, rfl⟩
    have HNB : Hid (NB = grpBusy r.u (liveL r.u) x.g) := hid (by rw [hNB]; unfold grpBusy; rw [HLF0.out, ← HNN.out])
    have HAD := hid (fun (base : Nat) (v : Value) (w' : World) (ho : OwnI w' base v LF) (hb : Below wd.heap.size wd w') (hbs : base ≤ w'.heap.size) (hwb : wd.heap.size ≤ base) => add_any base v LF N na nc w' ho ((own_slice HO4.out).2.2.1.below hb) (by omega) (fun b off e h => by have h1 := (own_slice HO4.out).2.2.2 b off e; have h2 := own_ge ho b h.symm; omega) hbs)
    rw [← hNB] at HAD
    have HCL := hid (fun (w' : World) (hb : Below wd.heap.size wd w') => cloneI_any LF li lic w' (HLR.out.below hb) (by omega))
    clear hNB
    have HS2 : Hid (∀ W, Below wd.heap.size wd W → W.cell? ⟨b1, 0, none⟩ = some (.pointer (some ⟨w0.heap.size, 0, none⟩)) ∧ W.cell? ⟨b1 + 1, 0, none⟩ = some (.int .i64 x.g.frm) ∧ W.cell? ⟨w0.heap.size, 7, none⟩ = some (.slice (some ⟨bv, ov, none⟩) (liveL r.u).length r.vc) ∧ W.cell? ⟨bv, ov + x.g.frm, none⟩ = some (.slice li LF.length lic) ∧ W.cell? ⟨b4, 0, none⟩ = some (.slice na N.length nc)) := hid (fun W hb => ⟨cell_later hb c1, cell_later hb g0, cell_later hb k7, cell_later hb hlc, cell_later hb t4⟩)
    go_upto_region 2 with fail
    go_cut [5] from 31 to 42 (fun s5 wy => ∃ (nb : Option Addr) (ncb : Nat), s5 = .slice nb NB.length ncb ∧ Hid (OwnI wy wa.heap.size (.slice nb NB.length ncb) NB) ∧ Hid (Below wd.heap.size wd wy))
    case first => as_aux_lemma =>
      clear c1 g0 g1 g2 g3 k7 t4 hlc
      go_region_held3 (fun W => W.cell? ⟨b1, 0, none⟩ = some (.pointer (some ⟨w0.heap.size, 0, none⟩)) ∧ W.cell? ⟨b1 + 1, 0, none⟩ = some (.int .i64 x.g.frm) ∧ W.cell? ⟨w0.heap.size, 7, none⟩ = some (.slice (some ⟨bv, ov, none⟩) (liveL r.u).length r.vc) ∧ W.cell? ⟨bv, ov + x.g.frm, none⟩ = some (.slice li LF.length lic) ∧ W.cell? ⟨b4, 0, none⟩ = some (.slice na N.length nc))
        (first | exact HS2.out _ (bdrew _) | exact HS2.out _ hb6 | exact HS2.out _ hb5 | exact HS2.out _ (Below.refl _ _))
        (first
          | (go_at_call 108; (with_reducible refine (HCL.out _ (bdrew _)).mono ?_); rintro e w5 ⟨hb, v5, rfl, ho5⟩; have hb5 := (bdrew wd).step hb; have HO5 : Hid (OwnI w5 wd.heap.size v5 LF) := hid ho5; have HZ5 : Hid (wd.heap.size ≤ w5.heap.size) := hid hb.size; clear hb ho5)
          | (go_at_call 74; (with_reducible refine (HAD.out wd.heap.size v5 _ HO5.out hb5 HZ5.out (Nat.le_refl _)).mono ?_); rintro e w6 ⟨v6, rfl, ho6, hg6, hx6⟩; have hb6 : Below wd.heap.size wd w6 := hb5.grown hg6 hb5.size (fun k e => own_ge HO5.out k e); obtain ⟨nb, ncb, rfl, hr6⟩ := ho6.rd; have HO6 := hid ho6; clear ho6 hg6 hx6 hr6))
      all_goals
        go_wp2_with fail
        go_meet
        exact ⟨nb, ncb, rfl, hid (OwnI.mono HO6.out HB4.out.1.size), hid hb6⟩
    case rest => as_aux_lemma =>
      obtain ⟨nb, ncb, rfl, HO5, HB5⟩ := hcut
      clear c1 g0 g1 g2 g3 k7 t4 hlc HS2 HAD HCL HLR hl200
      obtain ⟨we, hwe⟩ : ∃ we, we = wc := ⟨_, rfl⟩
      rw [← hwe] at HO5 HB5
      rw [← hwe]
      clear hwe
      have HI5 := hid (HI4.out.below HB5.out)
      have HW5 : Hid (Below w.heap.size w we) := hid (HW4.out.step HB5.out)
      have T5 := hid (keepBox HB5.out T4.out)
      have HN5 := hid (OwnI.later HO4.out HB5.out)
      have c1 := cellO HI5.out.h1
      obtain ⟨g0, g1, g2, g3⟩ := box4 HI5.out.h2
      have k16 := HI5.out.hi.k16
      have k17 := HI5.out.hi.k17
      have htl : x.g.frm < r.t.length := by rw [HOM.out.tl]; omega
      have ntl : (x.g.frm : Int) < (r.t.length : Int) := by omega
      obtain ⟨bt, ot, hta, -, ht0⟩ := (HM.out.below HI5.out.hi.hb).mt x.g.frm htl
      rw [hta] at k16
      have HTZ : Hid (r.t.getD x.g.frm 0 = r.t[x.g.frm]) := hid (getD_in htl)
      generalize r.t[x.g.frm] = tz at *
      clear hta
      have HG5 : Hid (w.grownBy we (some w0.heap.size)) := hid (grown_ofB HW5.out _)
      go_upto_region 3 with fail
      by_cases htz : tz = (a : Int)
      case neg => as_aux_lemma =>
        have HE : Hid (o = none) := hid (HO.out.trans (grpChk_no (by rw [HTZ.out]; exact htz)))
        have d1 : (tz == (a : Int)) = false := by simpa using htz
        go_still_tail 14, (by kernel_rfl)
        change wpList _ _ _ _ _ we.drew
        go_wp2_with (first
          | (go_at_call 185; (with_reducible refine (must_no _).mono ?_); rintro e w8 ⟨rfl, rfl⟩))
        exact ⟨rfl, gB_below HG5.out (bdrew _), by rw [HE.out]⟩
      case pos => as_aux_lemma =>
        have HE0 : Hid (o = (ldGo r.v r.h x.g.reads NB (r.v.code.length + 1) a [] []).bind (grpK r.u r.v (liveL r.u) r.h r.t x.g)) := hid (by rw [HNB.out]; exact HO.out.trans (grpChk_yes (by rw [HTZ.out]; exact htz)))
        have d1 : (tz == (a : Int)) = true := by simpa using htz
        clear htz
        go_still_tail 14, (by kernel_rfl)
        change wpList _ _ _ _ _ we.drew
        have hmm := @run_makeMap Tryz.prog
        go_upto_region 4 with (first
          | (go_at_call 185; (with_reducible refine (must_yes _).mono ?_); rintro e w8 ⟨rfl, rfl⟩))
        clear c1 g0 g1 g2 g3 k16 k17 ht0 d1 HO
        obtain ⟨wf, hwf⟩ : ∃ wf, wf = we.drew := ⟨_, rfl⟩
        have HI6 : Hid (GpI w0 r a b1 (b1 + 1) x wf) := hid (by rw [hwf]; exact HI5.out.below (bdrew we))
        have HW6 : Hid (Below w.heap.size w wf) := hid (by rw [hwf]; exact HW5.out.step (bdrew we))
        have T6 : Hid (wf.heap[b4]? = some (.cells #[.slice na N.length nc] 28)) := hid (by rw [hwf]; exact T5.out)
        have HN6 : Hid (OwnI wf wa.heap.size (.slice na N.length nc) N) := hid (by rw [hwf]; exact OwnI.later HN5.out (bdrew we))
        have HO6 : Hid (OwnI wf wa.heap.size (.slice nb NB.length ncb) NB) := hid (by rw [hwf]; exact OwnI.later HO5.out (bdrew we))
        rw [← hwf]
        clear hwf HI5 HW5 T5 HN5 HO5 HB5 HI4 HW4 T4 HO4 HI HWA
        obtain ⟨bm, hbm⟩ : ∃ b, b = wf.heap.size := ⟨_, rfl⟩
        obtain ⟨b6, hb6⟩ : ∃ b, b = bm + 1 := ⟨_, rfl⟩
        obtain ⟨bh, hbh⟩ : ∃ b, b = b6 + 1 := ⟨_, rfl⟩
        obtain ⟨wg, hwg⟩ : ∃ wg, wg = ((wf.alloc (.map #[] 0)).alloc (.cells #[.map (some bm)] 120)).alloc (.map #[] 0) := ⟨_, rfl⟩
        have HZ : Hid (GrZ w0 w wa x b1 b4 b6 bm bh na nc N nb ncb NB) := hid ⟨HZ0.out.1, ⟨HZ0.out.2.1, HZ0.out.2.2⟩, ⟨HB4.out.2, by rw [hbm]; exact lt_of_heap T6.out⟩, ⟨by omega, by omega⟩,
          fun b e => by rw [hbm]; exact own_lt HN6.out b e, fun b e => by rw [hbm]; exact own_lt HO6.out b e, fun b off e => by have := HXB.out b off e; have := HZ0.out; omega⟩
        have HL0 : Hid (GrL w0 w wa r x b1 b4 b6 bm bh na nc N nb ncb NB a [] [] wg) := hid (by
          have hs1 := mapAt_made mkInts wf
          rw [← hbm] at hs1
          have hs2 := setAt_made ((wf.alloc (.map #[] 0)).alloc (.cells #[.map (some bm)] 120))
          rw [World.size_alloc, World.size_alloc, ← hbm, ← hb6, ← hbh, ← hwg] at hs2
          have hb1 : Below wf.heap.size wf (wf.alloc (.map #[] 0)) := bnew _ _
          have hb2 : Below (wf.alloc (.map #[] 0)).heap.size (wf.alloc (.map #[] 0)) wg := by rw [hwg]; exact (bnew _ _).step (bnew _ _)
          have hb3 := hb1.step hb2
          exact ⟨HI6.out.hi.below hb3, grown_ofB (HW6.out.step hb3) _, keepBox hb3 HI6.out.h1, keepBox hb3 HI6.out.h2, keepBox hb3 T6.out, by rw [hwg]; exact keepBox (bnew _ _) (heapn _ _ _ (by rw [World.size_alloc, hb6, hbm])),
            OwnI.later HN6.out hb3, OwnI.later HO6.out hb3, HR.out.below (HW6.out.step hb3), hs1.below hb2, hs2⟩)
        go_upto_region 6 with fail
        rw [← hbm, ← hb6, ← hbh, ← hwg]
        clear hbm hb6 hbh hwg HI6 HW6 T6 HN6 HO6 hmm HG5 HTZ HLF0 hfl nfl
        have hvc := HOM.out.vc
        go_loopg [] (r.v.code.length - a) (fun gh wr => ∃ (f a2 : Nat) (had : List Int) (m : List (Int × Int)) (S : List Int) (L : List (Int × Int)), gh = r.v.code.length - a2 ∧ f + a2 = r.v.code.length + 1 + a ∧ a ≤ a2 ∧ (a2 ≤ r.v.code.length ∨ a2 = a) ∧
          Hid (o = (ldGo r.v r.h x.g.reads NB f a2 had m).bind (grpK r.u r.v (liveL r.u) r.h r.t x.g)) ∧ Hid (GrL w0 w wa r x b1 b4 b6 bm bh na nc N nb ncb NB a2 S L wr) ∧ Hid (∀ y, y ∈ S ↔ y ∈ had) ∧ Hid (∀ s, getM L s = lastP m s) ∧ Hid (L.length ≤ (a2 - a) * 2000))
        case atStart => exact ⟨r.v.code.length + 1, a, [], [], [], [], rfl, rfl, Nat.le_refl _, .inr rfl, HE0, HL0, hid (fun y => Iff.rfl), hid (fun s => rfl), hid (Nat.zero_le _)⟩
        case round => as_aux_lemma =>
          obtain ⟨f, a2, had, m, S, L, rfl, hf, haa, ha2, HE, HL, HS, HG, HC⟩ := hrel
          have ha21 : a2 ≤ 1000 := by omega
          clear HE0 HL0
          obtain ⟨c1, g0, g1, g2, g3, t4, t6⟩ := HL.out.cells
          have k17 := HL.out.hi.k17
          have k13 := HL.out.hi.k13
          by_cases hop : ∃ y, r.v.code[a2]? = some y ∧ y.op = 33
          case pos => as_aux_lemma =>
            obtain ⟨y, hy, hy33⟩ := hop
            have hlt : a2 < r.v.code.length := (List.getElem?_eq_some_iff.1 hy).1
            have nlt : (a2 : Int) < (r.v.code.length : Int) := by omega
            obtain ⟨bd, od, hda, -, y0, -, -, -⟩ := ((HM.out.below HL.out.hi.hb).mv.rc) a2 hlt
            have hyy : r.v.code[a2] = y := by
              have := List.getElem?_eq_getElem hlt
              rw [hy] at this
              exact (Option.some.inj this).symm
            rw [hyy, hy33] at y0
            rw [hda] at k13
            have hyb := HVB.out y (by rw [← hyy]; exact List.getElem_mem hlt)
            have HY := hid hy
            have HY33 := hid hy33
            clear hda hyy hy hy33
            go_upto_region 6 with fail
            go_still_tail 25, (by kernel_rfl)
            change wpList _ _ _ _ _ wr.drew
            go_upto_region 7 with fail
            have HL1 := hid (HL.out.below (bdrew wr))
            have HNX := hid (next_some HM.out HL1.out.hi (by omega) HY.out)
            go_upto_region 8 with (first
              | (go_at_call 217; (with_reducible refine HNX.out.mono ?_); rintro e w7 ⟨rfl, hri, hg⟩; have HL7 := hid (HL1.out.next HZ.out hri hg); clear hri hg))
            clear c1 g0 g1 g2 g3 t4 t6 k17 k13 y0 HNX HL1
            obtain ⟨b8, hb8⟩ : ∃ b, b = w7.heap.size := ⟨_, rfl⟩
            obtain ⟨w8, hw8⟩ : ∃ w8, w8 = w7.alloc (.cells #[.int .i64 y.op, .int .i64 y.a, .int .i64 y.b, .int .i64 y.c] 85) := ⟨_, rfl⟩
            have HX8 : Hid (w8.heap[b8]? = some (.cells #[.int .i64 y.op, .int .i64 y.a, .int .i64 y.b, .int .i64 y.c] 85)) := hid (by rw [hw8]; exact heapn _ _ _ hb8)
            have HL8 : Hid (GrL w0 w wa r x b1 b4 b6 bm bh na nc N nb ncb NB (a2 + 1) S L w8) := hid (by rw [hw8]; exact HL7.out.below (bnew _ _))
            have HZ8 : Hid (b4 < b8 ∧ bm < b8 ∧ bh < b8) := hid (by rw [hb8]; exact ⟨lt_of_heap HL7.out.h4, HL7.out.hM.lt, HL7.out.hH.lt⟩)
            rw [← hw8, ← hb8]
            clear hw8 hb8 HL HL7
            obtain ⟨c1, g0, g1, g2, g3, t4, t6⟩ := HL8.out.cells
            have k11 := HL8.out.hi.k11
            obtain ⟨q0, q1, q2, q3⟩ := box4 HX8.out
            have hvs := HOM.out.vs
            have hus := writ_args HWT.out
            have e1 : IntKind.i64.wrap (r.v.slots - 1) = r.v.slots - 1 := wrapk (by omega)
            have HWI := hid (fun w => within_regs y.a 0 (r.v.slots - 1) w)
            have HBU : ∀ s ∈ NB, 0 ≤ s ∧ s < r.h.length := by
              have hl := HOM.out.hl
              intro s hs
              rw [HNB.out] at hs
              unfold grpBusy grpBehind at hs
              rcases addL_mem.1 hs with h1 | h1
              · have := live_in HWT.out _ s h1; omega
              · have := need_in HWT.out _ s h1; omega
            have hnb : NB.length ≤ 1000000 := by
              have h1 := live_few HWT.out x.g.frm
              have h2 := addL_len ((liveL r.u).getD x.g.frm []) N
              rw [HNB.out]
              unfold grpBusy
              rw [← HNN.out]
              omega
            have hhl : r.h.length ≤ 1000000 := by have hl := HOM.out.hl; omega
            have HT := hid (fun w' (hb : Below w8.heap.size w8 w') => taken_any w0 r (a2 + 1) y.a NB nb ncb w' HM.out (HL8.out.hi.below hb) ((own_slice HL8.out.hB).2.2.1.below hb) HBU hhl hnb)
            have HD : Hid (ldOne r.v r.h x.g.reads NB y had = (y.c == 0 && inN y.a 0 (r.v.slots - 1) && !had.contains y.a && !takenB r.h y.a NB && decide (0 ≤ y.b) && x.g.reads.any fun s => homeN r.h s == -2 - y.b)) := hid rfl
            have HNO : Hid (ldOne r.v r.h x.g.reads NB y had = false → o = none) := hid (fun hd => by
              obtain ⟨f2, rfl⟩ : ∃ f2, f = f2 + 1 := ⟨f - 1, by omega⟩
              rw [HE.out, ld_none HY.out HY33.out hd]
              rfl)
            have HGR := hid (gB_below HL8.out.hg (bdrew w8))
            by_cases hc0 : y.c = 0
            case neg => as_aux_lemma =>
              have d1 : (y.c == 0) = false := by simpa using hc0
              have HN := hid (HNO.out (by rw [HD.out, d1]; rfl))
              go_still_tail 29, (by kernel_rfl)
              change wpList _ _ _ _ _ w8.drew
              go_wp2_with (first
                | (go_at_call 185; (with_reducible refine (must_no _).mono ?_); rintro e w9 ⟨rfl, rfl⟩))
              exact ⟨rfl, HGR.out, by rw [HN.out]⟩
            case pos => as_aux_lemma =>
              have d1 : (y.c == 0) = true := by simpa using hc0
              clear hc0
              rw [d1, Bool.true_and] at HD
              cases hin : inN y.a 0 (r.v.slots - 1) with
              | false => as_aux_lemma =>
                have HN := hid (HNO.out (by rw [HD.out, hin]; rfl))
                rw [hin] at HWI
                clear hin
                go_still_tail 29, (by kernel_rfl)
                still_call (retS (HWI.out _))
                repeat still_step
                refine wpStill_nil ?_
                change wpList _ _ _ _ _ w8.drew
                go_wp2_with (first
                  | (go_at_call 185; (with_reducible refine (must_no _).mono ?_); rintro e w9 ⟨rfl, rfl⟩))
                exact ⟨rfl, HGR.out, by rw [HN.out]⟩
              | true => as_aux_lemma =>
              have hya : 0 ≤ y.a ∧ y.a ≤ 1000 := by unfold inN at hin; simp only [Bool.and_eq_true, decide_eq_true_eq] at hin; omega
              rw [hin, Bool.true_and] at HD
              rw [hin] at HWI
              clear hin
              have hlk := (HL8.out.hH.below (bdrew w8)).hasT Tryz.underlying156 (k := y.a) (by omega)
              have HSC : Hid (S.contains y.a = had.contains y.a) := hid (by rw [Bool.eq_iff_iff, List.contains_iff_mem, List.contains_iff_mem]; exact HS.out y.a)
              cases hct : S.contains y.a with
              | true => as_aux_lemma =>
                rw [hct] at hlk
                have HN := hid (HNO.out (by rw [HD.out, ← HSC.out, hct]; rfl))
                clear hct
                go_still_tail 29, (by kernel_rfl)
                still_call (retS (HWI.out _))
                repeat still_step
                refine wpStill_nil ?_
                change wpList _ _ _ _ _ w8.drew
                go_wp2_with (first
                  | (go_at_call 185; (with_reducible refine (must_no _).mono ?_); rintro e w9 ⟨rfl, rfl⟩))
                exact ⟨rfl, HGR.out, by rw [HN.out]⟩
              | false => as_aux_lemma =>
              rw [hct] at hlk
              rw [← HSC.out, hct, Bool.not_false, Bool.true_and] at HD
              clear hct
              cases htk : takenB r.h y.a NB with
              | true => as_aux_lemma =>
                rw [htk] at HT
                have HN := hid (HNO.out (by rw [HD.out, htk]; rfl))
                clear htk
                go_still_tail 26, (by kernel_rfl)
                still_call (retS (HWI.out _))
                repeat still_step
                refine wpStill_nil ?_
                change wpList _ _ _ _ _ w8.drew
                go_wp2_with (first
                  | (go_at_call 218; (with_reducible refine (HT.out _ (bdrew _)).mono ?_); rintro e w9 ⟨rfl, hb⟩; have HG9 := hid (gB_below HGR.out hb); clear hb)
                  | (go_at_call 185; (with_reducible refine (must_no _).mono ?_); rintro e w10 ⟨rfl, rfl⟩))
                exact ⟨rfl, HG9.out, by rw [HN.out]⟩
              | false => as_aux_lemma =>
              rw [htk] at HT
              rw [htk, Bool.not_false, Bool.true_and] at HD
              clear htk
              go_still_tail 26, (by kernel_rfl)
              still_call (retS (HWI.out _))
              repeat still_step
              refine wpStill_nil ?_
              change wpList _ _ _ _ _ w8.drew
              go_upto_region 9 with (first
                | (go_at_call 218; (with_reducible refine (HT.out _ (bdrew _)).mono ?_); rintro e w9 ⟨rfl, hb⟩; have HL9 := hid ((HL8.out.below (bdrew w8)).below hb); have HX9 := hid (keepBox hb (keepBox (bdrew w8) HX8.out)); clear hb)
                | (go_at_call 185; (with_reducible refine (must_yes _).mono ?_); rintro e w10 ⟨rfl, rfl⟩))
              clear c1 g0 g1 g2 g3 t4 t6 k11 q0 q1 q2 q3 hlk HT HWI e1 HL8 HX8 HGR
              obtain ⟨c1, g0, g1, g2, g3, t4, t6⟩ := HL9.out.cells
              obtain ⟨q0, q1, q2, q3⟩ := box4 HX9.out
              go_upto_region 10 with (first
                | (at_mapUpdate; refine wpList_set_putT Tryz.underlying156 _ rfl _ _ _ rfl bh S y.a rfl HL9.out.hH rfl rfl (by omega) ?_; intro w10 hs10 hg10; have HL10 := hid (HL9.out.putH HZ.out hs10 hg10); have HX10 := hid (box_kept hg10 HX9.out (fun e => by cases e; have := HZ8.out; omega)); clear hs10 hg10))
              clear c1 g0 g1 g2 g3 t4 t6 q0 q1 q2 q3 HL9 HX9
              obtain ⟨c1, g0, g1, g2, g3, t4, t6⟩ := HL10.out.cells
              obtain ⟨q0, q1, q2, q3⟩ := box4 HX10.out
              have HRL : Hid (x.g.reads.length ≤ 1200) := hid (by
                have h1 := grpReads_len r.u.code x.g.frm x.g.til
                rw [← HOK.out.rq] at h1
                omega)
              have hlh := HOM.out.hl
              have HRB : Hid (∀ s ∈ x.g.reads, (0 ≤ s ∧ s < r.h.length) ∧ (0 ≤ s ∧ s ≤ 1000) ∧ -1000 ≤ homeN r.h s ∧ homeN r.h s ≤ 1000) := hid (fun s hs => by
                have h1 := HOK.out.rd s hs
                have h2 := HOM.out.hb s h1.1 h1.2
                omega)
              have HF := hid (filterI_any 219 enters219 #[.pointer (some ⟨b1, 0, none⟩), .pointer (some ⟨b8, 0, none⟩)] (fun s => homeN r.h s == -2 - y.b) x.g.reads x.a x.c w10
                (fun s hs w' hb => k219 w0 r (a2 + 1) s y b1 b8 w' HM.out (HL10.out.hi.below hb) (keepBox hb HL10.out.h1) (keepBox hb HX10.out) (HRB.out s hs).1 hhl (HRB.out s hs).2.2 hyb) HL10.out.hR (by have := HRL.out; omega))
              have HFP := hid (filter_pos (l := x.g.reads) (p := fun s => homeN r.h s == -2 - y.b))
              have HFL := hid (List.length_filter_le (fun s => homeN r.h s == -2 - y.b) x.g.reads)
              have HFM : Hid (∀ s ∈ x.g.reads.filter (fun s => homeN r.h s == -2 - y.b), 0 ≤ s ∧ s ≤ 1000) := hid (fun s hs => (HRB.out s (List.mem_filter.1 hs).1).2.1)
              have HPU : Hid (ldPut r.h x.g.reads y m = m ++ (x.g.reads.filter (fun s => homeN r.h s == -2 - y.b)).map fun s => (s, y.a)) := hid rfl
              generalize x.g.reads.filter (fun s => homeN r.h s == -2 - y.b) = lf at HF HFP HFL HFM HPU
              have HZ10 : Hid (bm < w10.heap.size) := hid HL10.out.hM.lt
              go_upto_region 11 with (first
                | (go_at_call 109; (with_reducible refine HF.out.mono ?_); rintro e w11 ⟨hb, v11, rfl, ho⟩; obtain ⟨la, lc, rfl, hlr⟩ := ho.rd; have HL11 := hid (HL10.out.below hb); have HX11 := hid (keepBox hb HX10.out); have HO11 := hid ho; clear hb ho hlr))
              clear c1 g0 g1 g2 g3 t4 t6 q0 q1 q2 q3 HF HL10 HX10
              obtain ⟨c1, g0, g1, g2, g3, t4, t6⟩ := HL11.out.cells
              obtain ⟨q0, q1, q2, q3⟩ := box4 HX11.out
              have HGR := hid HL11.out.hg
              by_cases hb0 : 0 ≤ y.b
              case neg => as_aux_lemma =>
                have HN := hid (HNO.out (by rw [HD.out, decide_eq_false hb0]; rfl))
                go_wp2_with (first
                  | (go_at_call 185; (with_reducible refine (must_no _).mono ?_); rintro e w10 ⟨rfl, rfl⟩))
                exact ⟨rfl, HGR.out, by rw [HN.out]⟩
              case pos => as_aux_lemma =>
              by_cases hlf : 0 < lf.length
              case neg => as_aux_lemma =>
                have nlf : ¬ (0 : Int) < (lf.length : Int) := by omega
                have HN := hid (HNO.out (by
                  rw [HD.out, decide_eq_true hb0, Bool.true_and]
                  cases ha : x.g.reads.any (fun s => homeN r.h s == -2 - y.b) with
                  | false => rfl
                  | true => exact absurd (HFP.out.2 ha) hlf))
                go_wp2_with (first
                  | (go_at_call 185; (with_reducible refine (must_no _).mono ?_); rintro e w10 ⟨rfl, rfl⟩))
                exact ⟨rfl, HGR.out, by rw [HN.out]⟩
              case pos => as_aux_lemma =>
              have nlf : (0 : Int) < (lf.length : Int) := by omega
              have HD2 : Hid (ldOne r.v r.h x.g.reads NB y had = true) := hid (by rw [HD.out, decide_eq_true hb0, Bool.true_and]; exact HFP.out.1 hlf)
              have HE2 : Hid (∃ f2, f = f2 + 1 ∧ o = (ldGo r.v r.h x.g.reads NB f2 (a2 + 1) (had ++ [y.a]) (ldPut r.h x.g.reads y m)).bind (grpK r.u r.v (liveL r.u) r.h r.t x.g)) := hid (by
                obtain ⟨f2, rfl⟩ : ∃ f2, f = f2 + 1 := ⟨f - 1, by omega⟩
                exact ⟨f2, rfl, by rw [HE.out, ld_more HY.out HY33.out HD2.out]⟩)
              clear HD HD2 HNO HFP
              go_upto_region 13 with (first
                | (go_at_call 185; (with_reducible refine (must_yes _).mono ?_); rintro e w11 ⟨rfl, rfl⟩))
              have HO11b : Hid (bm < w10.heap.size ∧ OwnI w11 w10.heap.size (.slice la lf.length lc) lf) := hid ⟨HZ10.out, HO11.out⟩
              clear HO11 HZ10 c1 g0 g1 g2 g3 t4 t6 q0 q1 q2 q3 HGR
              go_loopg [136] lf.length (fun gh s136 wz => ∃ (j : Nat) (L2 : List (Int × Int)), j ≤ lf.length ∧ gh = lf.length - j ∧ s136 = .int .i64 j ∧ Hid (GrL w0 w wa r x b1 b4 b6 bm bh na nc N nb ncb NB (a2 + 1) (insS y.a S) L2 wz) ∧ Hid (wz.heap[b8]? = some (.cells #[.int .i64 y.op, .int .i64 y.a, .int .i64 y.b, .int .i64 y.c] 85)) ∧
                Hid (bm < w10.heap.size ∧ OwnI wz w10.heap.size (.slice la lf.length lc) lf) ∧ Hid (∀ s, getM L2 s = lastP (m ++ (lf.take j).map fun s => (s, y.a)) s) ∧ Hid (L2.length ≤ L.length + j))
              case atStart => exact ⟨0, L, Nat.zero_le _, rfl, rfl, HL11, HX11, HO11b, hid (by rw [List.take_zero, List.map_nil, List.append_nil]; exact HG.out), hid (Nat.le_refl _)⟩
              case round => as_aux_lemma =>
                obtain ⟨j, L2, hj, rfl, rfl, HLz, HXz, HOz, HGz, HCz⟩ := hrel
                clear HL11 HX11 HO11b
                obtain ⟨c1, g0, g1, g2, g3, t4, t6⟩ := HLz.out.cells
                obtain ⟨q0, q1, q2, q3⟩ := box4 HXz.out
                have hlf12 : lf.length ≤ 1200 := by have h3 := HFL.out; have h4 := HRL.out; omega
                by_cases hjl : j < lf.length
                · have nj : (j : Int) < (lf.length : Int) := by omega
                  obtain ⟨bl, ol, hla, -, hl0⟩ := (own_slice HOz.out.2).2.2.1 j hjl
                  have hsj := HFM.out lf[j] (List.getElem_mem hjl)
                  have HTK : Hid (lf.take (j + 1) = lf.take j ++ [lf[j]]) := hid (take_last hjl)
                  generalize lf[j] = s at *
                  subst hla
                  have hl2 : L2.length ≤ 1000000000 := by have h1 := HCz.out; have h2 := HC.out; have h3 := HFL.out; have h4 := HRL.out; omega
                  have hk := wf64 (x := s) (by omega)
                  have hc := wf64 (x := y.a) (by omega)
                  go_wp2_with (first
                    | (at_mapUpdate; refine wpList_map_put mkInts _ Tryz.underlying120 rfl _ _ _ rfl bm L2 s y.a rfl HLz.out.hM hl2 rfl rfl hk hc ?_; intro w12 hm12 hg12; have HL12 := hid (HLz.out.putM HZ.out hm12 hg12); have HX12 := hid (box_kept hg12 HXz.out (fun e => by cases e; have := HZ8.out; omega)); have HO12 : Hid (bm < w10.heap.size ∧ OwnI w12 w10.heap.size (.slice (some ⟨bl, ol, none⟩) lf.length lc) lf) := hid ⟨HOz.out.1, HOz.out.2.kept hg12 (fun b hb e => by cases e; have h1 := own_ge HOz.out.2 _ hb; have h2 := HOz.out.1; omega)⟩; clear hm12 hg12))
                  go_roundg (lf.length - (j + 1))
                  case measure => omega
                  case rel =>
                    exact ⟨j + 1, putM s y.a L2, by omega, rfl, by go_num, HL12, HX12, HO12, hid (fun t => by
                      rw [getM_putM, HGz.out t, HTK.out, List.map_append, List.map_singleton, ← List.append_assoc, lastP_snoc]), hid (by have h1 := putM_len s y.a L2; have h2 := HCz.out; omega)⟩
                · obtain rfl : j = lf.length := by omega
                  have nj : ¬ (lf.length : Int) < (lf.length : Int) := by omega
                  obtain ⟨f2, hf2, hE2⟩ := HE2.out
                  have HE3 := hid hE2
                  clear hE2
                  go_wp2
                  go_roundg (r.v.code.length - (a2 + 1))
                  case measure => omega
                  case rel =>
                    refine ⟨f2, a2 + 1, had ++ [y.a], ldPut r.h x.g.reads y m, insS y.a S, L2, rfl, by omega, by omega, .inl (by omega), HE3, HLz, hid (fun z => ?_), hid (fun t => ?_), hid ?_⟩
                    · rw [mem_insS, List.mem_append, List.mem_singleton, HS.out z]
                      exact or_comm
                    · rw [HGz.out t, HPU.out, List.take_length]
                    · have h1 := HCz.out
                      have h2 := HC.out
                      have h3 := HFL.out
                      have h4 := HRL.out
                      have h5 : a2 + 1 - a = (a2 - a) + 1 := by omega
                      rw [h5]
                      omega
          case neg => as_aux_lemma =>
            have hno : ∀ y, r.v.code[a2]? = some y → y.op ≠ 33 := fun y h1 h2 => hop ⟨y, h1, h2⟩
            have HK : Hid (o = grpK r.u r.v (liveL r.u) r.h r.t x.g (a2, m)) := hid (by
              obtain ⟨f2, rfl⟩ : ∃ f2, f = f2 + 1 := ⟨f - 1, by omega⟩
              cases hy : r.v.code[a2]? with
              | none => rw [HE.out, ld_end hy]; rfl
              | some y => rw [HE.out, ld_stop hy (hno y hy)]; rfl)
            clear HE hop
            have HHNO := hid hno
            clear hno
            go_upto_region 6 with fail
            go_cut [85] from 60 to 85 (fun s85 wy => s85 = .bool false ∧ Hid (Below wr.heap.size wr wy))
            case first => as_aux_lemma =>
              by_cases hlt : a2 < r.v.code.length
              · have nlt : (a2 : Int) < (r.v.code.length : Int) := by omega
                obtain ⟨bd, od, hda, -, y0, -, -, -⟩ := ((HM.out.below HL.out.hi.hb).mv.rc) a2 hlt
                have hy := HHNO.out _ (List.getElem?_eq_getElem hlt)
                generalize r.v.code[a2] = y at *
                rw [hda] at k13
                have d33 : (y.op == 33) = false := by simpa using hy
                clear hda hy
                go_still_tail 25, (by kernel_rfl)
                change wpList _ _ _ _ _ wr.drew
                go_wp2_with fail
                go_meet
                exact ⟨rfl, hid (bdrew _)⟩
              · have nlt : ¬ (a2 : Int) < (r.v.code.length : Int) := by omega
                go_still_tail 25, (by kernel_rfl)
                change wpList _ _ _ _ _ wr.drew
                go_wp2_with fail
                go_meet
                exact ⟨rfl, hid (bdrew _)⟩
            case rest => as_aux_lemma =>
              obtain ⟨rfl, HBX⟩ := hcut
              clear c1 g0 g1 g2 g3 t4 t6 k17 k13
              obtain ⟨wd, hwd⟩ : ∃ wd, wd = wc := ⟨_, rfl⟩
              rw [← hwd] at HBX
              rw [← hwd]
              clear hwd
              have HLd := hid (HL.out.below HBX.out)
              clear HL HBX
              obtain ⟨c1, g0, g1, g2, g3, t4, t6⟩ := HLd.out.cells
              go_upto_region 19 with fail
              have HSG : Hid (∀ s ∈ x.g.reads, 0 ≤ s ∧ s < r.h.length) := hid (fun s hs => by have h1 := HOK.out.rd s hs; have h2 := HOM.out.hl; omega)
              have HNIN : Hid (∀ s ∈ N, 0 ≤ s ∧ s < r.h.length) := hid (fun s hs => by
                have h2 := HOM.out.hl
                rw [HNN.out] at hs
                have h1 := need_in HWT.out _ s hs
                omega)
              have hhl : r.h.length ≤ 1000000 := by have hl := HOM.out.hl; have := writ_args HWT.out; omega
              have HK2 : Hid (o = (insGo r.u r.v r.h r.t m N x.g.frm (x.g.til + 1 - x.g.frm) a2).bind fun b => if 0 ≤ x.g.wr ∧ homeN r.h x.g.wr ≤ -2 then nxtI r.v b (storeI (-2 - homeN r.h x.g.wr) ((r.v.code.getD (b - 1) ins0).a)) else some b) := hid (by
                rw [HK.out, HNN.out]
                rfl)
              clear HK HHNO c1 g0 g1 g2 g3 t4 t6 HS HC
              go_loopg [13] (x.g.til + 1 - x.g.frm) (fun gh s13 wz => ∃ (i a3 : Nat), x.g.frm ≤ i ∧ i ≤ x.g.til + 1 ∧ gh = x.g.til + 1 - i ∧ s13 = .int .i64 (i : Int) ∧ a3 ≤ 1000 ∧ (x.g.frm < i → 0 < a3 ∧ a3 ≤ r.v.code.length) ∧
                Hid (insGo r.u r.v r.h r.t m N x.g.frm (i - x.g.frm) a2 = some a3) ∧ Hid (GrL w0 w wa r x b1 b4 b6 bm bh na nc N nb ncb NB a3 S L wz))
              case atStart => exact ⟨x.g.frm, a2, Nat.le_refl _, by omega, rfl, rfl, ha21, fun h => absurd h (Nat.lt_irrefl _), hid (by rw [Nat.sub_self]; rfl), HLd⟩
              case round => as_aux_lemma =>
                obtain ⟨i, a3, hi1, hi2, rfl, rfl, ha3, ha3b, HIN, HLz⟩ := hrel
                clear HLd
                obtain ⟨c1, g0, g1, g2, g3, t4, t6⟩ := HLz.out.cells
                have k17 := HLz.out.hi.k17
                have HSTOP : Hid (insOne r.u r.v r.h r.t m N x.g.frm i a3 = none → i < x.g.til + 1 → o = none) := hid (fun h1 h2 => by
                  rw [HK2.out, ins_none (n := i - x.g.frm + 1) (by rw [ins_succ HIN.out, show x.g.frm + (i - x.g.frm) = i by omega]; exact h1) (show i - x.g.frm + 1 ≤ x.g.til + 1 - x.g.frm by omega)]
                  rfl)
                by_cases hnt : i < x.g.til + 1
                case pos => as_aux_lemma =>
                  have hit : (i : Int) ≤ (x.g.til : Int) := by omega
                  have hil : i < r.u.code.length := by omega
                  go_upto_region 21 with fail
                  go_cut [] from 148 to 206 (fun wy => Hid (i = x.g.frm ∨ r.t.getD i 0 = (a3 : Int)) ∧ Hid (Below wr.heap.size wr wy))
                  case first => as_aux_lemma =>
                    by_cases hif0 : i = x.g.frm
                    · have d1 : ((i : Int) == (x.g.frm : Int)) = true := by simp; omega
                      have d1n : (i == x.g.frm) = true := by simpa using hif0
                      have HX := hid (Or.inl hif0 : i = x.g.frm ∨ r.t.getD i 0 = (a3 : Int))
                      clear hif0
                      go_still_tail 19, (by kernel_rfl)
                      change wpList _ _ _ _ _ wr.drew
                      go_wp2_with (first
                        | (go_at_call 185; (with_reducible refine (must_yes _).mono ?_); rintro e w10 ⟨rfl, rfl⟩))
                      go_meet
                      exact ⟨HX, hid (bdrew _)⟩
                    · have d1 : ((i : Int) == (x.g.frm : Int)) = false := by simp; omega
                      have d1n : (i == x.g.frm) = false := by simpa using hif0
                      have k16 := HLz.out.hi.k16
                      have htli : i < r.t.length := by rw [HOM.out.tl]; omega
                      have ntli : (i : Int) < (r.t.length : Int) := by omega
                      obtain ⟨bt2, ot2, hta, -, ht0⟩ := (HM.out.below HLz.out.hi.hb).mt i htli
                      rw [hta] at k16
                      have HTZ : Hid (r.t.getD i 0 = r.t[i]) := hid (getD_in htli)
                      generalize r.t[i] = tz2 at *
                      clear hta
                      by_cases he : tz2 = (a3 : Int)
                      · have HX := hid (Or.inr (HTZ.out.trans he) : i = x.g.frm ∨ r.t.getD i 0 = (a3 : Int))
                        have d2 : (tz2 == (a3 : Int)) = true := by simpa using he
                        clear he hif0
                        go_still_tail 19, (by kernel_rfl)
                        change wpList _ _ _ _ _ wr.drew
                        go_wp2_with (first
                          | (go_at_call 185; (with_reducible refine (must_yes _).mono ?_); rintro e w10 ⟨rfl, rfl⟩))
                        go_meet
                        exact ⟨HX, hid (bdrew _)⟩
                      · have HN := hid (HSTOP.out (insOne_at (fun h => h.elim hif0 (fun h2 => he (HTZ.out.symm.trans h2)))) hnt)
                        have d2 : (tz2 == (a3 : Int)) = false := by simpa using he
                        have HGR := hid (gB_below HLz.out.hg (bdrew wr))
                        clear he hif0
                        go_still_tail 19, (by kernel_rfl)
                        change wpList _ _ _ _ _ wr.drew
                        go_wp2_with (first
                          | (go_at_call 185; (with_reducible refine (must_no _).mono ?_); rintro e w10 ⟨rfl, rfl⟩))
                        exact ⟨rfl, HGR.out, by rw [HN.out]⟩
                  case rest => as_aux_lemma =>
                    obtain ⟨HAT, HBX⟩ := hcut
                    clear c1 g0 g1 g2 g3 t4 t6 k17
                    obtain ⟨wd, hwd⟩ : ∃ wd, wd = wc := ⟨_, rfl⟩
                    rw [← hwd] at HBX
                    rw [← hwd]
                    clear hwd
                    have HLd := hid (HLz.out.below HBX.out)
                    clear HLz HBX
                    obtain ⟨c1, g0, g1, g2, g3, t4, t6⟩ := HLd.out.cells
                    cases hy : r.v.code[a3]? with
                    | none => as_aux_lemma =>
                      have HN := hid (HSTOP.out (insOne_end hy) hnt)
                      have HNX := hid (next_none HM.out HLd.out.hi (by omega) hy)
                      have HGR := hid HLd.out.hg
                      go_wp2_with (first
                        | (go_at_call 217; (with_reducible refine HNX.out.mono ?_); rintro e w7 ⟨rfl, hg⟩; have HG7 := hid (HGR.out.andThen hg (fun j e => .inr e)); clear hg))
                      exact ⟨rfl, HG7.out, by rw [HN.out]⟩
                    | some y => as_aux_lemma =>
                      have HY := hid hy
                      have hlt3 : a3 < r.v.code.length := (List.getElem?_eq_some_iff.1 hy).1
                      have HNX := hid (next_some HM.out HLd.out.hi (by omega) hy)
                      clear hy
                      go_upto_region 23 with (first
                        | (go_at_call 217; (with_reducible refine HNX.out.mono ?_); rintro e w7 ⟨rfl, hri, hg⟩; have HL7 := hid (HLd.out.next HZ.out hri hg); clear hri hg))
                      clear c1 g0 g1 g2 g3 t4 t6 HNX HLd
                      obtain ⟨b14, hb14⟩ : ∃ b, b = w7.heap.size := ⟨_, rfl⟩
                      obtain ⟨w8, hw8⟩ : ∃ w8, w8 = w7.alloc (.cells #[.int .i64 y.op, .int .i64 y.a, .int .i64 y.b, .int .i64 y.c] 85) := ⟨_, rfl⟩
                      have HX8 : Hid (w8.heap[b14]? = some (.cells #[.int .i64 y.op, .int .i64 y.a, .int .i64 y.b, .int .i64 y.c] 85)) := hid (by rw [hw8]; exact heapn _ _ _ hb14)
                      have HL8 : Hid (GrL w0 w wa r x b1 b4 b6 bm bh na nc N nb ncb NB (a3 + 1) S L w8) := hid (by rw [hw8]; exact HL7.out.below (bnew _ _))
                      rw [← hw8, ← hb14]
                      clear hw8 hb14 HL7
                      obtain ⟨c1, g0, g1, g2, g3, t4, t6⟩ := HL8.out.cells
                      obtain ⟨q0, q1, q2, q3⟩ := box4 HX8.out
                      have k5 := HL8.out.hi.k5
                      have nil : (i : Int) < (r.u.code.length : Int) := by omega
                      obtain ⟨bc, oc, hca, -, z0, z1, z2, z3⟩ := ((HM.out.below HL8.out.hi.hb).mu.rc) i hil
                      rw [hca] at k5
                      have HVS := hid HOM.out.vs
                      have HUS := hid (writ_args HWT.out)
                      have HU0 : Hid (r.u.code.getD i ins0 = r.u.code[i]) := hid (getD_in hil)
                      have HUR := hid (writ_readIn HWT.out hil)
                      have HUW := hid (writ_writeIn HWT.out hil)
                      have HPL : Hid (∀ p, placeO r.u.code[i] = some p → 0 ≤ p ∧ p < r.u.code.length) := hid (fun p hp => place_in (writ_plain HWT.out) hil hp)
                      have hop34 : r.u.code[i].op ≠ 34 := by
                        have h1 := writ_ins HWT.out hil
                        unfold writIns at h1
                        rw [HU0.out] at h1
                        simp only [Bool.and_eq_true, Bool.not_eq_true', beq_eq_false_iff_ne] at h1
                        exact h1.1.1.2
                      have HH := hid HOM.out.hl
                      have HRE := hid (replaced_any r.u.code[i] 220 221 enters220 enters221 #[.pointer (some ⟨b1, 0, none⟩), .pointer (some ⟨b6, 0, none⟩)] #[.pointer (some ⟨b1, 0, none⟩), .pointer (some ⟨b14, 0, none⟩), .pointer (some ⟨b4, 0, none⟩)] (rdChk r.h m) (wrChk r.v r.h N y) (fun s => 0 ≤ s ∧ s < r.h.length) (fun s => 0 ≤ s ∧ s < r.h.length) w8
                        (fun s hs w' hb => k220 w0 r (a3 + 1) s m L b1 b6 bm w' HM.out (HL8.out.hi.below hb) (keepBox hb HL8.out.h1) (keepBox hb HL8.out.h6) (HL8.out.hM.below hb) (HG.out s) hs hhl)
                        (fun s hs w' hb => k221 w0 r (a3 + 1) s y N na nc b1 b14 b4 w' HM.out (HL8.out.hi.below hb) (keepBox hb HL8.out.h1) (keepBox hb HX8.out) (keepBox hb HL8.out.h4) ((own_slice HL8.out.hN).2.2.1.below hb) HNIN.out (by omega) hs hhl (by have := HVS.out; have := HUS.out; omega))
                        (fun s hs => by have h1 := HUR.out s hs; have h2 := HH.out; omega) (fun h0 => by have h1 := HUW.out; have h2 := HH.out; omega))
                      rw [replO_eq _ _ _ hop34 (fun s hs => (HUR.out s hs).1)] at HRE
                      have HGR := hid HL8.out.hg
                      by_cases hc : (∀ s ∈ readsL r.u.code[i], (rdChk r.h m s).isSome = true) ∧ (0 ≤ writesI r.u.code[i] → (wrChk r.v r.h N y (writesI r.u.code[i])).isSome = true)
                      case neg => as_aux_lemma =>
                        have HN := hid (HSTOP.out (insOne_no HY.out (by rw [HU0.out]; exact hc)) hnt)
                        rw [if_neg hc] at HRE
                        clear hc HUR HUW HPL hop34 HU0
                        generalize r.u.code[i] = cu at *
                        go_wp2_with (first
                          | (go_at_call 113; (with_reducible refine HRE.out.mono ?_); rintro e w9 ⟨hb, hor⟩; obtain rfl : e = .panicked wrongP := hor.elim (fun h => by obtain ⟨z, hz, _⟩ := h; cases hz) (fun h => h.2); have HG9 := hid (gB_below HGR.out hb); clear hb hor))
                        exact ⟨rfl, HG9.out, by rw [HN.out]⟩
                      case pos => as_aux_lemma =>
                        rw [if_pos hc] at HRE
                        obtain ⟨z, hz⟩ : ∃ z, z = replI r.u.code[i] (fun s => (rdChk r.h m s).getD 0) (fun s => (wrChk r.v r.h N y s).getD 0) := ⟨_, rfl⟩
                        rw [← hz] at HRE
                        have HPZ : Hid (∀ p, placeO z = some p → 0 ≤ p ∧ p < r.u.code.length) := hid (fun p hp => HPL.out p (by rw [hz, replI_place] at hp; exact hp))
                        have HYES := hid (fun (he : y = movI r.t z) => insOne_yes HY.out HAT.out (by rw [HU0.out]; exact hc) (by rw [HU0.out]; exact hz) he)
                        have HNE := hid (fun (he : y ≠ movI r.t z) => HSTOP.out (insOne_ne HY.out (by rw [HU0.out]; exact hz) he) hnt)
                        clear hc hz HUR HUW HPL hop34 HU0 HSTOP HAT
                        generalize r.u.code[i] = cu at *
                        clear hca
                        go_upto_region 24 with (first
                          | (go_at_call 113; (with_reducible refine HRE.out.mono ?_); rintro e w9 ⟨hb, hor⟩; have HL9 := hid (HL8.out.below hb); have HX9 := hid (keepBox hb HX8.out); clear hb; obtain ⟨z2, hz2, rfl⟩ : ∃ z2, some z = some z2 ∧ e = .returned (vI z2) := hor.elim (fun h => h) (fun h => by cases h.1); cases hz2; clear hor))
                        clear c1 g0 g1 g2 g3 t4 t6 q0 q1 q2 q3 k5 z0 z1 z2 z3 nil HRE HL8 HX8 HGR
                        obtain ⟨b15, hb15⟩ : ∃ b, b = w9.heap.size := ⟨_, rfl⟩
                        obtain ⟨w10, hw10⟩ : ∃ w10, w10 = w9.alloc (.cells #[.int .i64 z.op, .int .i64 z.a, .int .i64 z.b, .int .i64 z.c] 85) := ⟨_, rfl⟩
                        have HXz : Hid (w10.heap[b15]? = some (.cells #[.int .i64 z.op, .int .i64 z.a, .int .i64 z.b, .int .i64 z.c] 85)) := hid (by rw [hw10]; exact heapn _ _ _ hb15)
                        have HXy : Hid (w10.heap[b14]? = some (.cells #[.int .i64 y.op, .int .i64 y.a, .int .i64 y.b, .int .i64 y.c] 85)) := hid (by rw [hw10]; exact keepBox (bnew _ _) HX9.out)
                        have HLa : Hid (GrL w0 w wa r x b1 b4 b6 bm bh na nc N nb ncb NB (a3 + 1) S L w10) := hid (by rw [hw10]; exact HL9.out.below (bnew _ _))
                        have HZf : Hid (bh < b15 ∧ b14 < b15) := hid (by rw [hb15]; exact ⟨HL9.out.hH.lt, lt_of_heap HX9.out⟩)
                        rw [← hw10, ← hb15]
                        clear hw10 hb15 HL9 HX9
                        obtain ⟨pa, hpa⟩ : ∃ pa, pa = placeA z.op b15 0 := ⟨_, rfl⟩
                        obtain ⟨eb, heb⟩ : ∃ eb, eb = pa.isSome := ⟨_, rfl⟩
                        have HPC : Hid (Calls Tryz.prog 101 #[.pointer (some ⟨b15, 0, none⟩)] w10 (RetS (.pointer pa) w10)) := hid (by
                          rw [hpa]
                          exact place_any z.op b15 0 w10 (box4 HXz.out).1)
                        have hnq : ∀ w, (binOp .neq 153 (.pointer pa) (.pointer none)).run Tryz.prog w = .ok (.bool eb) w := fun w => by
                          rw [heb]
                          cases pa with
                          | none => simp [go_sem]
                          | some p => simp [go_sem]
                        have HPA := hid hpa
                        have HEB := hid heb
                        clear hpa heb
                        go_upto_if 190 with (first
                          | (go_at_call 101; (with_reducible refine HPC.out.mono ?_); rintro e w11 ⟨rfl, rfl⟩))
                        go_cut [] from 148 to 206 (fun wy => Hid (GrL w0 w wa r x b1 b4 b6 bm bh na nc N nb ncb NB (a3 + 1) S L wy) ∧ Hid (wy.heap[b14]? = some (.cells #[.int .i64 y.op, .int .i64 y.a, .int .i64 y.b, .int .i64 y.c] 85)) ∧ Hid (wy.heap[b15]? = some (.cells #[.int .i64 (movI r.t z).op, .int .i64 (movI r.t z).a, .int .i64 (movI r.t z).b, .int .i64 (movI r.t z).c] 85)))
                        case first => as_aux_lemma =>
                          obtain ⟨op, A, B, C⟩ := z
                          have HTAT := hid (fun (p : Nat) (hp : p < r.t.length) => (HM.out.below HLa.out.hi.hb).mt p hp)
                          have k16 := HLa.out.hi.k16
                          obtain ⟨c1, g0, g1, g2, g3, t4, t6⟩ := HLa.out.cells
                          obtain ⟨q0, q1, q2, q3⟩ := box4 HXz.out
                          clear HNE HYES
                          rcases (show op = 24 ∨ (op = 25 ∨ op = 32) ∨ (op ≠ 24 ∧ op ≠ 25 ∧ op ≠ 32) by omega) with rfl | h2 | ⟨n1, n2, n3⟩
                          · obtain ⟨h0, h1⟩ := HPZ.out A rfl
                            obtain ⟨p, rfl⟩ : ∃ p : Nat, A = (p : Int) := ⟨A.toNat, by omega⟩
                            have hpt : p < r.t.length := by rw [HOM.out.tl]; omega
                            have npt : (p : Int) < (r.t.length : Int) := by omega
                            obtain ⟨bt2, ot2, hta, -, ht0⟩ := HTAT.out p hpt
                            rw [hta] at k16
                            have HTZ : Hid (r.t.getD p 0 = r.t[p]) := hid (getD_in hpt)
                            obtain ⟨tp, htp⟩ : ∃ tp, tp = r.t[p] := ⟨_, rfl⟩
                            rw [← htp] at HTZ ht0
                            have HMV : Hid (movI r.t (⟨24, p, B, C⟩ : InsN) = (⟨24, tp, B, C⟩ : InsN)) := hid ((movI_24 r.t p B C).trans (by rw [show ((p : Int)).toNat = p by omega, HTZ.out]))
                            have f1 := boxF 1 HXz.out
                            obtain rfl : pa = some ⟨b15, 1, none⟩ := HPA.out
                            obtain rfl : eb = true := HEB.out
                            clear hta h0 h1 htp hnq
                            go_upto_region 26 with fail
                            go_still_tail 12, (by kernel_rfl)
                            change wpList _ _ _ _ _ (World.drew _)
                            go_wp2
                            go_meet
                            rw [HMV.out]
                            exact ⟨hid ((HLa.out.below (bdrew _)).own HZ.out HZf.out.1 (gB_set (row := some b15) (b := b15) (grown_refl _ _) 1 _ (.inl rfl))), hid ((heap_setCell_other _ _ _ _ (show b14 ≠ b15 by have := HZf.out; omega)).trans HXy.out), hid (heap_setCell_same _ _ 1 _ _ _ HXz.out)⟩
                          · obtain ⟨h0, h1⟩ := HPZ.out B (by rcases h2 with rfl | rfl <;> rfl)
                            obtain ⟨p, rfl⟩ : ∃ p : Nat, B = (p : Int) := ⟨B.toNat, by omega⟩
                            have hpt : p < r.t.length := by rw [HOM.out.tl]; omega
                            have npt : (p : Int) < (r.t.length : Int) := by omega
                            obtain ⟨bt2, ot2, hta, -, ht0⟩ := HTAT.out p hpt
                            rw [hta] at k16
                            have HTZ : Hid (r.t.getD p 0 = r.t[p]) := hid (getD_in hpt)
                            obtain ⟨tp, htp⟩ : ∃ tp, tp = r.t[p] := ⟨_, rfl⟩
                            rw [← htp] at HTZ ht0
                            have HMV : Hid (movI r.t (⟨op, A, p, C⟩ : InsN) = (⟨op, A, tp, C⟩ : InsN)) := hid ((movI_b r.t h2 A p C).trans (by rw [show ((p : Int)).toNat = p by omega, HTZ.out]))
                            have f1 := boxF 2 HXz.out
                            obtain rfl : pa = some ⟨b15, 2, none⟩ := HPA.out.trans (by rcases h2 with rfl | rfl <;> rfl)
                            obtain rfl : eb = true := HEB.out
                            clear hta h0 h1 htp h2 hnq
                            go_upto_region 26 with fail
                            go_still_tail 12, (by kernel_rfl)
                            change wpList _ _ _ _ _ (World.drew _)
                            go_wp2
                            go_meet
                            rw [HMV.out]
                            exact ⟨hid ((HLa.out.below (bdrew _)).own HZ.out HZf.out.1 (gB_set (row := some b15) (b := b15) (grown_refl _ _) 2 _ (.inl rfl))), hid ((heap_setCell_other _ _ _ _ (show b14 ≠ b15 by have := HZf.out; omega)).trans HXy.out), hid (heap_setCell_same _ _ 2 _ _ _ HXz.out)⟩
                          · have HMV : Hid (movI r.t (⟨op, A, B, C⟩ : InsN) = (⟨op, A, B, C⟩ : InsN)) := hid (movI_no r.t n1 n2 n3)
                            obtain rfl : pa = none := HPA.out.trans (by unfold placeA; rw [if_neg (by simpa using n1), if_neg (by simp [n2, n3])])
                            obtain rfl : eb = false := HEB.out
                            clear n1 n2 n3 hnq
                            go_wp2_with fail
                            go_meet
                            rw [HMV.out]
                            exact ⟨HLa, HXy, HXz⟩
                        case rest => as_aux_lemma =>
                          obtain ⟨HLw, HXy2, HXz2⟩ := hcut
                          clear HLa HXy HXz HPC HPA HEB HPZ hnq
                          obtain ⟨we2, hwe2⟩ : ∃ we, we = wc := ⟨_, rfl⟩
                          rw [← hwe2] at HLw HXy2 HXz2
                          rw [← hwe2]
                          clear hwe2
                          obtain ⟨c1, g0, g1, g2, g3, t4, t6⟩ := HLw.out.cells
                          obtain ⟨zz, hzz⟩ : ∃ zz, zz = movI r.t z := ⟨_, rfl⟩
                          rw [← hzz] at HXz2 HYES HNE
                          clear hzz
                          obtain ⟨q0, q1, q2, q3⟩ := box4 HXy2.out
                          obtain ⟨p0, p1, p2, p3⟩ := box4 HXz2.out
                          have heg : Tryz.prog.eqGuardType Tryz.prog.depth 85 = false := by kernel_rfl
                          have HEQ : ∀ w, (binOp .eql 85 (.agg #[.int .i64 y.op, .int .i64 y.a, .int .i64 y.b, .int .i64 y.c]) (.agg #[.int .i64 zz.op, .int .i64 zz.a, .int .i64 zz.b, .int .i64 zz.c])).run Tryz.prog w = .ok (.bool (eqB y zz)) w := fun w => eqI y zz w
                          have HGR := hid HLw.out.hg
                          by_cases hyz : y = zz
                          case neg => as_aux_lemma =>
                            have HN := hid (HNE.out hyz)
                            have he : eqB y zz = false := by unfold eqB; exact decide_eq_false hyz
                            rw [he] at HEQ
                            clear hyz HNE HYES he
                            go_wp2_with (first
                              | (go_at_call 185; (with_reducible refine (must_no _).mono ?_); rintro e w10 ⟨rfl, rfl⟩))
                            exact ⟨rfl, HGR.out, by rw [HN.out]⟩
                          case pos => as_aux_lemma =>
                            have HY1 := hid (HYES.out hyz)
                            have he : eqB y zz = true := by unfold eqB; exact decide_eq_true hyz
                            rw [he] at HEQ
                            clear hyz HNE HYES he
                            go_wp2_with (first
                              | (go_at_call 185; (with_reducible refine (must_yes _).mono ?_); rintro e w10 ⟨rfl, rfl⟩))
                            go_roundg (x.g.til + 1 - (i + 1))
                            case measure => omega
                            case rel =>
                              refine ⟨i + 1, a3 + 1, by omega, by omega, rfl, by go_num, by omega, fun _ => ⟨by omega, by omega⟩, hid ?_, HLw⟩
                              rw [show i + 1 - x.g.frm = (i - x.g.frm) + 1 by omega, ins_succ HIN.out, show x.g.frm + (i - x.g.frm) = i by omega]
                              exact HY1.out
                case neg => as_aux_lemma =>
                  have hie : i = x.g.til + 1 := by omega
                  have hit : ¬ (i : Int) ≤ (x.g.til : Int) := by omega
                  have HB2 := hid (ha3b (by omega))
                  have HK3 : Hid (o = if 0 ≤ x.g.wr ∧ homeN r.h x.g.wr ≤ -2 then nxtI r.v a3 (storeI (-2 - homeN r.h x.g.wr) ((r.v.code.getD (a3 - 1) ins0).a)) else some a3) := hid (by
                    have h1 := HIN.out
                    rw [hie] at h1
                    rw [HK2.out, h1]
                    rfl)
                  clear HIN HK2 HSTOP hie
                  obtain ⟨wv, hwv⟩ : ∃ wv, wv = x.g.wr := ⟨_, rfl⟩
                  have HWV := hid hwv
                  have hwr : -1 ≤ wv ∧ wv < r.u.slots := by
                    have h1 := HOK.out.wr
                    rw [getD_in htil] at h1
                    rw [hwv, h1]
                    exact writ_writeIn HWT.out htil
                  rw [← hwv] at HK3 g3
                  clear hwv
                  have HGR := hid HLz.out.hg
                  go_upto_region 28 with fail
                  by_cases hw0 : 0 ≤ wv
                  case neg => as_aux_lemma =>
                    have HN : Hid (o = some a3) := hid (by rw [HK3.out, if_neg (fun h => hw0 h.1)])
                    go_still_tail 14, (by kernel_rfl)
                    change wpList _ _ _ _ _ wr.drew
                    go_wp2
                    go_end0
                    exact ⟨gB_below HGR.out (bdrew _), by rw [HN.out]; exact ⟨rfl, HLz.out.hi.below (bdrew _)⟩⟩
                  case pos => as_aux_lemma =>
                    obtain ⟨q, rfl⟩ : ∃ q : Nat, wv = (q : Int) := ⟨wv.toNat, by omega⟩
                    have hq : q < r.h.length := by have := HOM.out.hl; omega
                    have nq : (q : Int) < (r.h.length : Int) := by omega
                    have HMH := hid (fun (w' : World) (hb : Below w0.heap.size w0 w') => (HM.out.below hb).mh q hq)
                    obtain ⟨bh2, oh2, hha, -, ht0⟩ := HMH.out wr HLz.out.hi.hb
                    have k15 := HLz.out.hi.k15
                    rw [hha] at k15
                    have HHA := hid hha
                    have hzb := HOM.out.hb q (by omega) (by omega)
                    have HQZ : Hid (homeN r.h (q : Int) = r.h[q]) := hid (getD_in hq)
                    rw [HQZ.out] at HK3 hzb
                    generalize r.h[q] = hz at *
                    by_cases hz2 : hz ≤ -2
                    case neg => as_aux_lemma =>
                      have HN : Hid (o = some a3) := hid (by rw [HK3.out, if_neg (fun h => hz2 h.2)])
                      clear hha
                      go_still_tail 14, (by kernel_rfl)
                      change wpList _ _ _ _ _ wr.drew
                      go_wp2
                      go_end0
                      exact ⟨gB_below HGR.out (bdrew _), by rw [HN.out]; exact ⟨rfl, HLz.out.hi.below (bdrew _)⟩⟩
                    case pos => as_aux_lemma =>
                      rw [if_pos ⟨hw0, hz2⟩] at HK3
                      obtain ⟨c, rfl⟩ : ∃ c, a3 = c + 1 := ⟨a3 - 1, by have := HB2.out; omega⟩
                      have hcv : c < r.v.code.length := by have := HB2.out; omega
                      have ncv : (c : Int) < (r.v.code.length : Int) := by omega
                      rw [show c + 1 - 1 = c by omega, getD_in hcv] at HK3
                      have e1 : IntKind.i64.wrap ((c : Int) + 1 - 1) = (c : Int) := by
                        rw [show (c : Int) + 1 - 1 = (c : Int) by omega]
                        exact wrapk (x := (c : Int)) (by omega)
                      have e2 : IntKind.i64.wrap (c : Int) = (c : Int) := wrapk (x := (c : Int)) (by omega)
                      clear hha
                      go_still_tail 14, (by kernel_rfl)
                      change wpList _ _ _ _ _ wr.drew
                      go_upto_region 29 with fail
                      obtain ⟨wA, hwA⟩ : ∃ wA, wA = wr.drew := ⟨_, rfl⟩
                      have HLA : Hid (GrL w0 w wa r x b1 b4 b6 bm bh na nc N nb ncb NB (c + 1) S L wA) := hid (by rw [hwA]; exact HLz.out.below (bdrew _))
                      rw [← hwA]
                      clear hwA c1 g0 g1 g2 g3 t4 t6 k17 k15 ht0 HLz HGR
                      obtain ⟨c1, g0, g1, g2, g3, t4, t6⟩ := HLA.out.cells
                      have k17b : wA.cell? ⟨w0.heap.size, 17, none⟩ = some (.int .i64 ((c : Int) + 1)) := HLA.out.hi.k17
                      obtain ⟨bd, od, hda, -, y0, y1, y2, y3⟩ := ((HM.out.below HLA.out.hi.hb).mv.rc) c hcv
                      have k13 := HLA.out.hi.k13
                      rw [hda] at k13
                      generalize r.v.code[c].a = reg at *
                      clear hda
                      go_still_tail 13, (by kernel_rfl)
                      change wpList _ _ _ _ _ (World.drew _)
                      go_upto_region 30 with fail
                      obtain ⟨wB, hwB⟩ : ∃ wB, wB = wA.drew := ⟨_, rfl⟩
                      have HLB : Hid (GrL w0 w wa r x b1 b4 b6 bm bh na nc N nb ncb NB (c + 1) S L wB) := hid (by rw [hwB]; exact HLA.out.below (bdrew _))
                      rw [← hwB]
                      clear hwB c1 g0 g1 g2 g3 t4 t6 k17b k13 y0 y1 y2 y3 e1 e2 HLA
                      obtain ⟨c1, g0, g1, g2, g3, t4, t6⟩ := HLB.out.cells
                      cases hy : r.v.code[c + 1]? with
                      | none => as_aux_lemma =>
                        have HN : Hid (o = none) := hid (by
                          rw [HK3.out]
                          unfold nxtI
                          rw [hy]
                          rfl)
                        have HNX := hid (next_none HM.out HLB.out.hi (by omega) hy)
                        have HGR := hid HLB.out.hg
                        go_wp2_with (first
                          | (go_at_call 217; (with_reducible refine HNX.out.mono ?_); rintro e w7 ⟨rfl, hg⟩; have HG7 := hid (HGR.out.andThen hg (fun j e => .inr e)); clear hg))
                        exact ⟨rfl, HG7.out, by rw [HN.out]⟩
                      | some y => as_aux_lemma =>
                        have HY := hid hy
                        have HNX := hid (next_some HM.out HLB.out.hi (by omega) hy)
                        clear hy
                        go_upto_region 31 with (first
                          | (go_at_call 217; (with_reducible refine HNX.out.mono ?_); rintro e w7 ⟨rfl, hri, hg⟩; have HL7 := hid (HLB.out.next HZ.out hri hg); clear hri hg))
                        clear c1 g0 g1 g2 g3 t4 t6 HNX HLB
                        obtain ⟨b18, hb18⟩ : ∃ b, b = w7.heap.size := ⟨_, rfl⟩
                        obtain ⟨w8, hw8⟩ : ∃ w8, w8 = w7.alloc (.cells #[.int .i64 y.op, .int .i64 y.a, .int .i64 y.b, .int .i64 y.c] 85) := ⟨_, rfl⟩
                        have HX8 : Hid (w8.heap[b18]? = some (.cells #[.int .i64 y.op, .int .i64 y.a, .int .i64 y.b, .int .i64 y.c] 85)) := hid (by rw [hw8]; exact heapn _ _ _ hb18)
                        have HL8 : Hid (GrL w0 w wa r x b1 b4 b6 bm bh na nc N nb ncb NB (c + 1 + 1) S L w8) := hid (by rw [hw8]; exact HL7.out.below (bnew _ _))
                        rw [← hw8, ← hb18]
                        clear hw8 hb18 HL7
                        obtain ⟨c1, g0, g1, g2, g3, t4, t6⟩ := HL8.out.cells
                        rw [← HWV.out] at g3
                        obtain ⟨q0, q1, q2, q3⟩ := box4 HX8.out
                        obtain ⟨bh3, oh3, hha3, -, ht0⟩ := HMH.out w8 HL8.out.hi.hb
                        have k15 := HL8.out.hi.k15
                        rw [hha3] at k15
                        rw [← HQZ.out, HQZ.out] at ht0
                        clear hha3
                        have e3 : IntKind.i64.wrap (-2 - hz) = -2 - hz := wrapk (x := -2 - hz) (by omega)
                        have heg : Tryz.prog.eqGuardType Tryz.prog.depth 85 = false := by kernel_rfl
                        have HEQ : ∀ w, (binOp .eql 85 (.agg #[.int .i64 y.op, .int .i64 y.a, .int .i64 y.b, .int .i64 y.c]) (.agg #[.int .i64 34, .int .i64 (-2 - hz), .int .i64 reg, .int .i64 0])).run Tryz.prog w = .ok (.bool (eqB y (storeI (-2 - hz) reg))) w := fun w => eqI y (storeI (-2 - hz) reg) w
                        have HGR := hid HL8.out.hg
                        have HN2 : Hid (o = if y = storeI (-2 - hz) reg then some (c + 1 + 1) else none) := hid (by
                          rw [HK3.out]
                          unfold nxtI
                          rw [HY.out]
                          by_cases e : y = storeI (-2 - hz) reg
                          · rw [if_pos e, if_pos (by rw [e])]
                          · rw [if_neg e, if_neg (fun h => e (Option.some.inj h))])
                        by_cases hyz : y = storeI (-2 - hz) reg
                        case neg => as_aux_lemma =>
                          have he : eqB y (storeI (-2 - hz) reg) = false := by unfold eqB; exact decide_eq_false hyz
                          rw [he] at HEQ
                          rw [if_neg hyz] at HN2
                          clear hyz he
                          go_still_tail 14, (by kernel_rfl)
                          change wpList _ _ _ _ _ (World.drew _)
                          go_wp2_with (first
                            | (go_at_call 185; (with_reducible refine (must_no _).mono ?_); rintro e w10 ⟨rfl, rfl⟩))
                          exact ⟨rfl, gB_below HGR.out (bdrew _), by rw [HN2.out]⟩
                        case pos => as_aux_lemma =>
                          have he : eqB y (storeI (-2 - hz) reg) = true := by unfold eqB; exact decide_eq_true hyz
                          rw [he] at HEQ
                          rw [if_pos hyz] at HN2
                          clear hyz he
                          go_still_tail 14, (by kernel_rfl)
                          change wpList _ _ _ _ _ (World.drew _)
                          go_wp2_with (first
                            | (go_at_call 185; (with_reducible refine (must_yes _).mono ?_); rintro e w10 ⟨rfl, rfl⟩))
                          go_end0
                          exact ⟨gB_below HGR.out (bdrew _), by rw [HN2.out]; exact ⟨rfl, HL8.out.hi.below (bdrew _)⟩⟩
end Go.Proofs.YtgalekifgnecjaaGreat
