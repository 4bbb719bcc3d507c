/- depth of package core. -/
import Derived.Test.YtecpkjhfbmchgaaU23
namespace Go.Proofs.Ytecpkjhfbmchgaa
open Go.RowKit Go.Shelf
theorem wide_fn (f : Nat) : Fence.wide.fn f = True := eq_true trivial
attribute [local go_sem] Oper.semAt_some

set_option maxRecDepth 100000 in
set_option maxHeartbeats 4000000 in
theorem depth_any (u : UntN) (ca : Option Addr) (cc : Nat) (ga : Option Addr) (gc : Nat) (w : World) (hm : UnM w u ca cc ga gc) (h1 : 0 < u.code.length) (hlen : u.code.length ≤ 1000000) (hlg : u.guards.length ≤ 1000000) (hin : ∀ t, t < u.code.length → ∀ x, x ∈ leadsL u t → 0 ≤ x.1 ∧ x.1 < u.code.length) :
    CallsIn Fence.wide 20 Try.prog 65 #[vU u ca cc ga gc] w (DpRet u w) := by
  have HM := hid hm; clear hm
  have HIN := hid hin; clear hin
  have HREP := hid (fun w b o c h => repeat_any (-1) u.code.length b o c w h hlen)
  have HX1 := hid (heapn w (oU u ca cc ga gc) _ rfl)
  have HB1 := hid (((bnew w (oU u ca cc ga gc)).step (bnew _ (.cells #[.slice none 0 0] 33))).step (bnew _ (.cells #[.bool false] 4)))
  have HX2 := hid (heapn (w.alloc (oU u ca cc ga gc)) (.cells #[.slice none 0 0] 33) _ rfl)
  have HX3 := hid (heapn ((w.alloc (oU u ca cc ga gc)).alloc (.cells #[.slice none 0 0] 33)) (.cells #[.bool false] 4) _ rfl)
  simp only [World.size_alloc] at HX2 HX3
  replace HX1 := hid (keepBox (bnew _ (.cells #[.bool false] 4)) (keepBox (bnew _ (.cells #[.slice none 0 0] 33)) HX1.out))
  replace HX2 := hid (keepBox (bnew _ (.cells #[.bool false] 4)) HX2.out)
  have HC0 := hid ((cell_of_row _ _ 0 _ _ _ (heapn (((w.alloc (oU u ca cc ga gc)).alloc (.cells #[.slice none 0 0] 33)).alloc (.cells #[.bool false] 4)) (.cells #[.int .i64 (-1)] 3) (w.heap.size + 1 + 1 + 1) (by simp))).trans rfl)
  have HS0 := hid (show ((((w.alloc (oU u ca cc ga gc)).alloc (.cells #[.slice none 0 0] 33)).alloc (.cells #[.bool false] 4)).alloc (.cells #[.int .i64 (-1)] 3)).heap.size = w.heap.size + 1 + 1 + 1 + 1 by simp)
  refine callsIn_of_wp_marks Try.func65 rfl trivial ?_ rfl
  simp only [Try.ntmps65, List.size_toArray, List.length_cons, List.length_nil, Nat.reduceAdd, Nat.reduceSub, Array.replicate_succ, Array.replicate_zero, List.push_toArray, List.append_toArray, List.nil_append, List.cons_append]
  gi_wp2_with (first
    | ((try refine ⟨trivial, ?_⟩); gi_at_call 75; refine (callsIn_wide.2 (HREP.out _ _ _ _ HC0.out)).mono ?_; rintro e w1 ⟨gO, rfl, hbi, hge, hb⟩; have HBI := hid hbi; have HGE := hid hge; have HB2 := hid hb; obtain ⟨old, hold⟩ : ∃ v, w1.cell? ⟨gO, 0, none⟩ = some (.int .i64 v) := ⟨_, hbi.at (by rw [List.length_replicate]; exact h1)⟩; have c0 := fun o => cell_later (bnew w1 o) hold; have f0 := fun o => (hbi.below (bnew w1 o)).frozen 0; clear hbi hge hb hold))
  clear c0 f0 HREP HC0
  -- the world at the head of the loop
  obtain ⟨b4, hb4⟩ : ∃ b, b = w1.heap.size := ⟨_, rfl⟩
  rw [HS0.out] at HGE
  have hgO : gO < b4 := by rw [hb4]; exact HBI.out.lt
  have hsz1 : w.heap.size + 1 + 1 + 1 + 1 ≤ b4 := by rw [hb4, ← HS0.out]; exact HB2.out.size
  have HI : Hid (DpI u ca cc ga gc w gO b4 [] ((List.replicate u.code.length (-1)).set 0 0) [0] (b4 + 1 + 1) (b4 + 1) 0 1 ((((w1.alloc (.cells #[.slice (some ⟨gO, 0, none⟩) u.code.length u.code.length] 33)).setCell ⟨gO, 0, none⟩ (.int .i64 0)).alloc (.cells #[.int .i64 0] 3)).alloc (.cells #[.slice (some ⟨b4 + 1, 0, none⟩) 1 1] 33))) := by
    have e1 : ∀ k, k < b4 → k ≠ gO → (((((w1.alloc (.cells #[.slice (some ⟨gO, 0, none⟩) u.code.length u.code.length] 33)).setCell ⟨gO, 0, none⟩ (.int .i64 0)).alloc (.cells #[.int .i64 0] 3)).alloc (.cells #[.slice (some ⟨b4 + 1, 0, none⟩) 1 1] 33))).heap[k]? = w1.heap[k]? := by
      intro k hk hn
      rw [(bnew _ _).block k (by simp; omega), (bnew _ _).block k (by simp; omega), Below.heap_setCell _ _ _ _ hn, (bnew _ _).block k (by omega)]
    have e2 : ∀ k, k < w.heap.size + 1 + 1 + 1 → w1.heap[k]? = (((w.alloc (oU u ca cc ga gc)).alloc (.cells #[.slice none 0 0] 33)).alloc (.cells #[.bool false] 4)).heap[k]? := by
      intro k hk
      rw [HB2.out.block k (by rw [HS0.out]; omega), (bnew _ _).block k (by simp; omega)]
    have hge := HGE.out
    have hst := dp_start h1
    refine ⟨?_, ?_, ?_, ?_, ?_, ?_, ?_, ?_, by omega, hgO, by omega, by omega, fun D h => (by cases h), List.nodup_nil, hst.1, hst.2, rfl⟩
    · exact (((((HB1.out.step (bnew _ _)).step HB2.out).step (bnew _ _)).setCell (p := ⟨gO, 0, none⟩) (by show w.heap.size ≤ gO; omega) _).step (bnew _ _)).step (bnew _ _)
    · exact (e1 _ (by omega) (by omega)).trans ((e2 _ (by omega)).trans HX1.out)
    · exact (e1 _ (by omega) (by omega)).trans ((e2 _ (by omega)).trans HX2.out)
    · exact (e1 _ (by omega) (by omega)).trans ((e2 _ (by omega)).trans HX3.out)
    · rw [(bnew _ _).block b4 (by simp; omega), (bnew _ _).block b4 (by simp; omega), Below.heap_setCell _ _ _ _ (by show b4 ≠ gO; omega)]
      exact heapn _ _ _ hb4
    · exact (((HBI.out.below (bnew _ _)).set (by rw [List.length_replicate]; exact h1) 0).below (bnew _ _)).below (bnew _ _)
    · exact heapn _ _ _ (by simp; omega)
    · exact (QB.one (heapn _ _ _ (by simp; omega))).below (bnew _ _)
  rw [← hb4]
  clear HX1 HX2 HX3 HB1 HS0 HBI HGE HB2
  generalize (((w1.alloc (.cells #[.slice (some ⟨gO, 0, none⟩) u.code.length u.code.length] 33)).setCell ⟨gO, 0, none⟩ (.int .i64 0)).alloc (.cells #[.int .i64 0] 3)).alloc (.cells #[.slice (some ⟨b4 + 1, 0, none⟩) 1 1] 33) = w2 at *
  clear hb4 hgO hsz1
  refine wpIn_loop (fun a' wr => ∃ (Ds : List Nat) (d op : List Int) (gB g off cap : Nat) (s6 s18 s19 s20 s21 s22 s23 s24 s25 s26 s27 s28 s76 : Value), a' = ⟨(vU u ca cc ga gc :: .pointer (some ⟨w.heap.size, 0, none⟩) :: .pointer (some ⟨w.heap.size + 1, 0, none⟩) :: .pointer (some ⟨w.heap.size + 1 + 1, 0, none⟩) :: .pointer (some ⟨b4, 0, none⟩) :: .pointer (some ⟨gB, 0, none⟩) :: s6 :: undef :: undef :: undef :: .slice (some ⟨w.heap.size + 1 + 1 + 1, 0, none⟩) 1 1 :: .pointer (some ⟨w.heap.size, 5, none⟩) :: .slice ca u.code.length cc :: .int .i64 u.code.length :: .slice (some ⟨gO, 0, none⟩) u.code.length u.code.length :: .slice (some ⟨gO, 0, none⟩) u.code.length u.code.length :: .pointer (some ⟨gO, 0, none⟩) :: .slice (some ⟨b4 + 1, 0, none⟩) 1 1 :: s18 :: s19 :: s20 :: s21 :: s22 :: s23 :: s24 :: s25 :: s26 :: s27 :: s28 :: undef :: undef :: undef :: undef :: undef :: undef :: undef :: undef :: undef :: undef :: undef :: undef :: undef :: undef :: undef :: undef :: undef :: undef :: undef :: undef :: undef :: undef :: undef :: undef :: undef :: undef :: undef :: undef :: undef :: undef :: undef :: undef :: undef :: undef :: undef :: undef :: undef :: undef :: undef :: undef :: undef :: undef :: undef :: undef :: undef :: undef :: undef :: s76 :: undef :: ([] : List Value)).toArray, Ds.map markD⟩ ∧ Hid (DpI u ca cc ga gc w gO b4 Ds d op gB g off cap wr)) (fun a' _ => u.code.length - a'.defers.length) ⟨[], _, _, _, _, _, _, _, _, _, _, _, _, _, _, _, _, _, _, _, rfl, HI⟩ ?_
  rintro _ wr ⟨Ds, d, op, gB, g, off, cap, s6, s18, s19, s20, s21, s22, s23, s24, s25, s26, s27, s28, s76, rfl, HI⟩
  clear w1 old
  cases op with
  | nil =>
    obtain ⟨v0, v1⟩ := (⟨(cell_of_row _ _ 0 _ _ _ HI.out.x5).trans rfl, (cell_of_row _ _ 0 _ _ _ HI.out.x4).trans rfl⟩ : wr.cell? ⟨gB, 0, none⟩ = some (.slice (some ⟨g, off, none⟩) 0 cap) ∧ wr.cell? ⟨b4, 0, none⟩ = some (.slice (some ⟨gO, 0, none⟩) u.code.length u.code.length))
    have v2 := (cell_of_row _ _ 0 _ _ _ HI.out.x2).trans rfl
    have v3 := (cell_of_row _ _ 0 _ _ _ HI.out.x3).trans rfl
    have f2 := boxF 0 HI.out.x2
    have f3 := boxF 0 HI.out.x3
    have HO := hid HI.out.ok
    gi_wp2
    refine dp_leave rfl rfl ((HI.out.hb.setCell (p := ⟨w.heap.size + 1, 0, none⟩) (by simp) _).setCell (p := ⟨w.heap.size + 1 + 1, 0, none⟩) (by show w.heap.size ≤ w.heap.size + 1 + 1; omega) _) (fun D hD => ⟨(HI.out.ds D hD).1, ?_⟩) HI.out.nd (r0 := some ⟨gO, 0, none⟩) (l := u.code.length) (c := u.code.length) (r1 := true) ?_ ?_ ?_
    · exact (KeepsOthers.setCell _ _ _).same D _ ((KeepsOthers.setCell _ _ _).same D _ (HI.out.ds D hD).2 rfl) rfl
    · exact (World.cell?_of_block (Below.heap_setCell _ _ _ _ (by simp))).trans (World.cell?_setCell_same' _ _ _ (by rw [v2]; rfl))
    · exact World.cell?_setCell_same' _ _ _ (by rw [World.cell?_of_block (Below.heap_setCell _ _ _ _ (by simp)), v3]; rfl)
    · intro W' hk hb'
      refine ⟨hb', ?_⟩
      have hn := HI.out.ans
      rw [dpAll_nil] at hn
      have h1' := HI.out.o1
      simp only [← hn]
      exact ⟨gO, rfl, ((HI.out.bi.keep (Below.heap_setCell _ _ _ _ (by show gO ≠ w.heap.size + 1; omega))).keep (Below.heap_setCell _ _ _ _ (by show gO ≠ w.heap.size + 1 + 1; omega))).keepBut hk, by omega⟩
  | cons t0 op =>
    obtain ⟨ht0, ht1⟩ := HI.out.ok.opn t0 (List.mem_cons_self ..)
    obtain ⟨t, rfl⟩ : ∃ t : Nat, t0 = (t : Int) := ⟨t0.toNat, by omega⟩
    have ht : t < u.code.length := by omega
    clear ht0 ht1
    have v0 : wr.cell? ⟨gB, 0, none⟩ = some (.slice (some ⟨g, off, none⟩) (op.length + 1) cap) := (cell_of_row _ _ 0 _ _ _ HI.out.x5).trans rfl
    have q0 : wr.cell? ⟨g, off, none⟩ = some (.int .i64 t) := HI.out.qb.at (i := 0) (by simp)
    have nop : (0 : Int) < (op.length : Int) + 1 := by omega
    have c1 : ∀ o, (wr.alloc o).cell? ⟨w.heap.size, 0, none⟩ = some (.string u.cls) := fun o => cell_later (bnew _ _) ((cell_of_row _ _ 0 _ _ _ HI.out.x1).trans rfl)
    have c2 : ∀ o, (wr.alloc o).cell? ⟨w.heap.size, 1, none⟩ = some (.string u.name) := fun o => cell_later (bnew _ _) ((cell_of_row _ _ 1 _ _ _ HI.out.x1).trans rfl)
    have c3 : ∀ o, (wr.alloc o).cell? ⟨w.heap.size, 2, none⟩ = some (.int .i64 u.args) := fun o => cell_later (bnew _ _) ((cell_of_row _ _ 2 _ _ _ HI.out.x1).trans rfl)
    have c4 : ∀ o, (wr.alloc o).cell? ⟨w.heap.size, 3, none⟩ = some (.int .i64 u.slots) := fun o => cell_later (bnew _ _) ((cell_of_row _ _ 3 _ _ _ HI.out.x1).trans rfl)
    have c5 : ∀ o, (wr.alloc o).cell? ⟨w.heap.size, 4, none⟩ = some (.int .i64 u.frame) := fun o => cell_later (bnew _ _) ((cell_of_row _ _ 4 _ _ _ HI.out.x1).trans rfl)
    have c6 : ∀ o, (wr.alloc o).cell? ⟨w.heap.size, 5, none⟩ = some (.slice ca u.code.length cc) := fun o => cell_later (bnew _ _) ((cell_of_row _ _ 5 _ _ _ HI.out.x1).trans rfl)
    have c7 : ∀ o, (wr.alloc o).cell? ⟨w.heap.size, 6, none⟩ = some (.slice ga u.guards.length gc) := fun o => cell_later (bnew _ _) ((cell_of_row _ _ 6 _ _ _ HI.out.x1).trans rfl)
    gi_wp2_with (first
      | ((try refine ⟨trivial, ?_⟩); gi_at_call 64; refine (callsIn_wide.2 (leads_any u t ca cc ga gc _)).mono ?_; rintro e W0 ⟨rfl, hW0⟩))
    clear v0 q0 nop c1 c2 c3 c4 c5 c6 c7
    have hz : W0.heap.size = wr.heap.size + 1 + 1 + 1 := by rw [← hW0]; simp
    have hbw : Below wr.heap.size wr W0 := by rw [← hW0]; exact ((bnew _ _).step (bnew _ _)).step (bnew _ _)
    have hU : W0.heap[wr.heap.size + 1]? = some (oU u ca cc ga gc) := by rw [← hW0]; exact keepBox (bnew _ _) (heapn _ _ _ (by simp))
    have hT : W0.heap[wr.heap.size + 1 + 1]? = some (.cells #[.int .i64 t] 3) := by rw [← hW0]; exact heapn _ _ _ (by simp)
    have h6 : W0.heap[wr.heap.size]? = some (.cells #[.int .i64 t] 3) := by rw [← hW0]; exact keepBox (bnew _ _) (keepBox (bnew _ _) (heapn _ _ _ rfl))
    clear hW0
    have lB : gB < wr.heap.size := lt_of_heap HI.out.x5
    have lg : g < wr.heap.size := HI.out.qb.lt
    have lO : gO < wr.heap.size := HI.out.bi.lt
    have l4 : b4 < wr.heap.size := lt_of_heap HI.out.x4
    have lw : w.heap.size + 1 + 1 < wr.heap.size := lt_of_heap HI.out.x3
    have e5 : W0.cell? ⟨gB, 0, none⟩ = some (.slice (some ⟨g, off, none⟩) (op.length + 1) cap) := cell_later hbw ((cell_of_row _ _ 0 _ _ _ HI.out.x5).trans rfl)
    have HWF : WFO (fun k => k = gO) gB W0 := ⟨fun k hk => by rw [hk]; omega, ⟨_, e5⟩, fun b o n c h => by rw [e5] at h; cases h; omega⟩
    have hMi : ∀ k, k ≠ gO → k ≠ gB → k ≠ g → MiO (fun k => k = gO) gB W0 k := fun k n1 n2 n3 => ⟨n1, n2, fun b o n c h => by rw [e5] at h; cases h; exact n3⟩
    have o1 := HI.out.o1
    have o2 := HI.out.o2
    have o3 := HI.out.o3
    have o4 := HI.out.o4
    have hmw : UnM W0 u ca cc ga gc := HM.out.below (HI.out.hb.step hbw)
    have hun : UnO (MiO (fun k => k = gO) gB) W0 u ca cc ga gc := by
      refine ⟨hmw, fun h0 b o e => ?_, fun h0 b o e => ?_⟩
      · obtain ⟨b', o', e', hl, _⟩ := HM.out.rc 0 h0
        rw [e] at e'
        cases e'
        exact hMi b (by omega) (by omega) (by omega)
      · obtain ⟨b', o', e', hl, _⟩ := HM.out.rg 0 h0
        rw [e] at e'
        cases e'
        exact hMi b (by omega) (by omega) (by omega)
    have m6 := hMi wr.heap.size (by omega) (by omega) (by omega)
    have m1 := hMi w.heap.size (by omega) (by omega) (by omega)
    have m4 := hMi b4 (by omega) (by omega) (by omega)
    have n2 : b4 ≠ gB := by omega
    have hstops := leads_stops 19 (by omega) (fenc_own (fun k => k = gO) gB) u t ht hlen hlg ca cc ga gc (wr.heap.size + 1) (wr.heap.size + 1 + 1) W0 hU hT hun (hMi _ (by omega) (by omega) (by omega)) (hMi _ (by omega) (by omega) (by omega)) HWF
    have hwl : w.heap.size ≤ W0.heap.size := by omega
    refine wpIn_rangeFunc_ownG (α := LdX u t) rfl (by omega) (gf := 72) (lb := #[.pointer (some ⟨wr.heap.size + 1, 0, none⟩), .pointer (some ⟨wr.heap.size + 1 + 1, 0, none⟩)]) rfl trivial (enters_of Try.func72 (by kernel_rfl) rfl) hstops KeepK.trans (keep_k (fenc_own _ _)) (Below.refl _ _) (fun _ => rfl)
      (fun pre W => ∃ d' op' g' off' cap', DpJ u w t gO b4 gB d op W0 (ldV pre) d' op' g' off' cap' W) (fun c pre W => c = Code.ret ∧ DpX u w t d op W0 (ldV pre) W)
      (fun pre A B row ⟨d', op', g', off', cap', h⟩ hg hr => ⟨d', op', g', off', cap', h.own hwl hg hr⟩) (fun c pre A B row h hg hr => ⟨h.1, h.2.own hwl hg hr⟩) ?h0 ?a1 ?assign ?body ?done ?stop
    case assign =>
      intro l x W K hK
      gi_wp2
      exact hK
    case h0 =>
      exact ⟨d, op, g, off, cap, rfl, ⟨HI.out.ok.len, HI.out.ok.rng, fun x hx => HI.out.ok.opn x (List.mem_cons_of_mem _ hx)⟩, HI.out.bi.below hbw, (hbw.block gB lB).trans HI.out.x5, HI.out.qb.below hbw, o3, KeepM.refl HWF, HI.out.hb.step hbw, fun _ _ _ h _ => h⟩
    case body =>
      rintro l pre ⟨⟨tt, how⟩, hx⟩ W ⟨d', op', g', off', cap', hJ⟩ _
      obtain ⟨hx0, hx1⟩ := HIN.out t ht (tt, how) hx
      obtain ⟨k, rfl⟩ : ∃ k : Nat, tt = (k : Int) := ⟨tt.toNat, by simp at hx0; omega⟩
      have hk : k < u.code.length := by simp at hx1; omega
      have HJ := hid hJ
      have y4 : W.cell? ⟨b4, 0, none⟩ = some (.slice (some ⟨gO, 0, none⟩) u.code.length u.code.length) := (cell_of_row _ _ 0 _ _ _ (hJ.hk.box ⟨(hbw.block b4 l4).trans HI.out.x4, m4⟩).1).trans rfl
      have y6 : W.cell? ⟨wr.heap.size, 0, none⟩ = some (.int .i64 t) := (cell_of_row _ _ 0 _ _ _ (hJ.hk.box ⟨h6, m6⟩).1).trans rfl
      have y5 : W.cell? ⟨w.heap.size, 5, none⟩ = some (.slice ca u.code.length cc) := (cell_of_row _ _ 5 _ _ _ (hJ.hk.box ⟨(hbw.block _ (lt_of_heap HI.out.x1)).trans HI.out.x1, m1⟩).1).trans rfl
      obtain ⟨bc, oc, hca, _, z0, z1, z2, z3⟩ := (hmw.rc.keep hJ.hk hun.oc) t ht
      have yO := hJ.bi.at (i := t) (by rw [hJ.ok.len]; exact ht)
      have hch := fun w => change_any u.code[t] how w
      generalize hit : u.code[t] = it at *
      have nt : (t : Int) < (u.code.length : Int) := by omega
      subst hca
      have HB0 := hid hJ.hb
      have hok := hJ.ok
      have hlen1 : op'.length + 1 ≤ 1000000 := by
        have hdl := (dpLeads_ok (s := (d, op)) ⟨HI.out.ok.len, HI.out.ok.rng, fun x hx => HI.out.ok.opn x (List.mem_cons_of_mem _ hx)⟩ (fun y hy => HIN.out t ht y (by obtain ⟨z, _, rfl⟩ := List.mem_map.1 hy; exact z.2)) hJ.st).2
        have hcn := HI.out.cnt
        rw [List.length_cons] at hcn
        simp only at hdl
        omega
      have lt : t < d'.length := by rw [hok.len]; exact ht
      have lk : k < d'.length := by rw [hok.len]; exact hk
      have hrt := hok.rng d'[t] (List.getElem_mem _)
      have hdt := getD_in (d := (0 : Int)) lt
      have hdk := getD_in (d := (0 : Int)) lk
      have yK := hJ.bi.at (i := k) lk
      have fK := hJ.bi.frozen k
      have hrk := hok.rng d'[k] (List.getElem_mem _)
      have HL := hid (dpLead_eq (op := op') (how := how) ht lt lk)
      rw [hit] at HL
      clear hit
      have hcr : -1 ≤ changeN it how ∧ changeN it how ≤ 1 := by unfold changeN; split <;> (try split) <;> omega
      generalize d'[t] = dt at *
      generalize d'[k] = dk at *
      generalize changeN it how = cn at *
      clear hJ hok lt lk
      have q4 := fun d os => cell_regrown y4 d os
      have q5 := fun d os => cell_regrown y5 d os
      have q6 := fun d os => cell_regrown y6 d os
      have qO := fun d os => cell_regrown yO d os
      have p0 := fun d os => cell_regrown z0 d os
      have p1 := fun d os => cell_regrown z1 d os
      have p2 := fun d os => cell_regrown z2 d os
      have p3 := fun d os => cell_regrown z3 d os
      have hwr : IntKind.i64.wrap (dt + cn) = dt + cn := wrapk (by omega)
      gi_wp2
      have hwf := wide_fn
      refine wpIn_region_round (F := Fence.wide) rfl (by kernel_rfl) (by kernel_rfl) (by kernel_rfl) ?_
      repeat (gi_big_quiet_step ((gi_at_call 76; exact CallsIn.regrown_of (callsIn_wide.2 (hch _)))))
      refine wpQuietIn_nil ?_
      rintro _ ⟨p9, rfl⟩
      have hb9 := below_regrown W p9.d p9.os
      generalize Go.Sort.grow (redrawn W p9.d) p9.os = W1 at *
      clear hwf q4 q5 q6 qO p0 p1 p2 p3 z0 z1 z2 z3 yO hwr
      have w4 := cell_later hb9 y4
      have wK := cell_later hb9 yK
      have wfK := (HJ.out.bi.below hb9).frozen k
      have m2 := hMi (w.heap.size + 1) (by omega) (by omega) (by omega)
      have m3 := hMi (w.heap.size + 1 + 1) (by omega) (by omega) (by omega)
      have x2 := (hbw.block _ (lt_of_heap HI.out.x2)).trans HI.out.x2
      have x3 := (hbw.block _ (lt_of_heap HI.out.x3)).trans HI.out.x3
      have k2 := keepBox hb9 (HJ.out.hk.box ⟨x2, m2⟩).1
      have k3 := keepBox hb9 (HJ.out.hk.box ⟨x3, m3⟩).1
      have v2 := (cell_of_row _ _ 0 _ _ _ k2).trans rfl
      have v3 := (cell_of_row _ _ 0 _ _ _ k3).trans rfl
      have f2 := boxF 0 k2
      have f3 := boxF 0 k3
      have kB := keepBox hb9 HJ.out.x5
      have vB := (cell_of_row _ _ 0 _ _ _ kB).trans rfl
      have fB := boxF 0 kB
      have HX2 := hid x2
      have HX3 := hid x3
      have HM2 := hid m2
      have HM3 := hid m3
      have HB9 := hid hb9
      have hngB : gB ≠ g' := fun e => by
        subst e
        obtain ⟨cur, hcg⟩ := HJ.out.qb.cells
        have h := hcg.symm.trans HJ.out.x5
        simp at h
      have lB1 := lt_of_heap kB
      have o3' := HJ.out.o3
      have KAB := hid (fun v o => (((bnew (W1.setCell ⟨gO, k, none⟩ v) o).block gB (by simp; omega)).trans (heap_setCell_other _ _ _ _ (by show gB ≠ gO; omega))).trans kB)
      have QAB := hid (fun v o => ((HJ.out.qb.below hb9).keep (heap_setCell_other W1 ⟨gO, k, none⟩ g' v (by show g' ≠ gO; omega))).below (bnew _ o))
      clear k2 k3 x2 x3 m2 m3 kB hb9 y4 y5 y6 yK fK
      have nk0 : (0 : Int) ≤ (k : Int) := by omega
      have nk1 : (k : Int) < (u.code.length : Int) := by omega
      obtain ⟨V, hV⟩ : ∃ V, V = if how = 2 then 0 else dt + cn := ⟨_, rfl⟩
      rw [← hV] at HL
      have HW := hid (fun w => within_any V 0 40 w)
      obtain ⟨e2, hq2⟩ : ∃ e2, e2 = (how == 2) := ⟨_, rfl⟩
      cases e2 with
      | true =>
        have hqe := hq2.symm
        clear hq2
        have h2 : how = 2 := by simpa using hqe
        rw [if_pos h2] at hV
        subst hV
        clear h2
        cases hib : inN 0 0 40 with
        | false =>
          rw [hib] at HW
          replace HL := hid (HL.out.trans (by rw [if_pos (by unfold dpBad; rw [hib]; rfl)]))
          clear hib
          gi_wp2_with (first
            | ((try refine ⟨trivial, ?_⟩); gi_at_call 38; refine (CallsIn.inRound l (callsIn_wide.2 (HW.out _))).mono ?_; rintro e w6 ⟨rfl, rfl⟩))
          obtain ⟨r1, r2⟩ := HJ.out.stop HB9.out HL.out HX2.out HX3.out HM2.out HM3.out
          exact ⟨r1.from _, rfl, by rw [ldV_snoc]; exact r2⟩
        | true =>
          rw [hib] at HW
          by_cases hd0 : 0 ≤ dk
          · have dd0 : decide (0 ≤ dk) = true := decide_eq_true hd0
            cases hne : (dk != 0) with
            | true =>
              replace HL := hid (HL.out.trans (by rw [if_pos (by unfold dpBad; rw [hib, hne, dd0]; rfl)]))
              clear hib hd0
              gi_wp2_with (first
                | ((try refine ⟨trivial, ?_⟩); gi_at_call 38; refine (CallsIn.inRound l (callsIn_wide.2 (HW.out _))).mono ?_; rintro e w6 ⟨rfl, rfl⟩))
              obtain ⟨r1, r2⟩ := HJ.out.stop HB9.out HL.out HX2.out HX3.out HM2.out HM3.out
              exact ⟨r1.from _, rfl, by rw [ldV_snoc]; exact r2⟩
            | false =>
              replace HL := hid (HL.out.trans (by rw [if_neg (by unfold dpBad; rw [hib, hne, dd0]; decide), if_neg (by omega)]))
              clear hib
              have nd0 : ¬ dk < 0 := by omega
              gi_wp2_with (first
                | ((try refine ⟨trivial, ?_⟩); gi_at_call 38; refine (CallsIn.inRound l (callsIn_wide.2 (HW.out _))).mono ?_; rintro e w6 ⟨rfl, rfl⟩))
              obtain ⟨r1, r2, r3⟩ := HJ.out.same HB9.out HL.out
              exact ⟨r1.from _, fun _ => r2, _, _, _, _, _, by rw [ldV_snoc]; exact r3⟩
          · have dd0 : decide (0 ≤ dk) = false := decide_eq_false hd0
            have nd0 : dk < 0 := by omega
            replace HL := hid (HL.out.trans (by rw [if_neg (by unfold dpBad; rw [hib, dd0]; simp), if_pos nd0]))
            clear hib hd0
            gi_wp2_with (first
              | ((try refine ⟨trivial, ?_⟩); gi_at_call 38; refine (CallsIn.inRound l (callsIn_wide.2 (HW.out _))).mono ?_; rintro e w6 ⟨rfl, rfl⟩)
              | (gi_at_builtin; refine wpListIn_append_q _ rfl (.tmp 72) (.tmp 74) rfl g' off' cap' ((t : Int) :: op') (k : Int) rfl (QAB.out _ _) ⟨W1.heap.size, 0, none⟩ 1 rfl ((cell_of_row _ _ 0 _ _ _ (heapn _ _ _ (by simp))).trans rfl) hlen1 ?_; intro g2 off2 cap2 W4 hq4 hgr hor; have k4 := (hgr.block gB (by simp; omega) (fun e => hngB (by cases e; rfl))).trans (KAB.out _ _); have c4 := (cell_of_row _ _ 0 _ _ _ k4).trans rfl; have f4 := boxF 0 k4; have HQ4 := hid hq4; have HG4 := hid hgr; have HO4 := hid hor; clear hq4 hgr hor k4))
            obtain ⟨r1, r2, r3⟩ := HJ.out.new HB9.out ⟨nk0, nk1⟩ HL.out o2 (by omega) o4 HQ4.out HG4.out HO4.out
            exact ⟨r1.from _, fun _ => r2, _, _, _, _, _, by rw [ldV_snoc]; exact r3⟩
      | false =>
        have hqe := hq2.symm
        clear hq2
        have h2 : ¬ how = 2 := by simpa using hqe
        rw [if_neg h2] at hV
        subst hV
        clear h2
        cases hib : inN (dt + cn) 0 40 with
        | false =>
          rw [hib] at HW
          replace HL := hid (HL.out.trans (by rw [if_pos (by unfold dpBad; rw [hib]; rfl)]))
          clear hib
          gi_wp2_with (first
            | ((try refine ⟨trivial, ?_⟩); gi_at_call 38; refine (CallsIn.inRound l (callsIn_wide.2 (HW.out _))).mono ?_; rintro e w6 ⟨rfl, rfl⟩))
          obtain ⟨r1, r2⟩ := HJ.out.stop HB9.out HL.out HX2.out HX3.out HM2.out HM3.out
          exact ⟨r1.from _, rfl, by rw [ldV_snoc]; exact r2⟩
        | true =>
          rw [hib] at HW
          by_cases hd0 : 0 ≤ dk
          · have dd0 : decide (0 ≤ dk) = true := decide_eq_true hd0
            cases hne : (dk != (dt + cn)) with
            | true =>
              replace HL := hid (HL.out.trans (by rw [if_pos (by unfold dpBad; rw [hib, hne, dd0]; rfl)]))
              clear hib hd0
              gi_wp2_with (first
                | ((try refine ⟨trivial, ?_⟩); gi_at_call 38; refine (CallsIn.inRound l (callsIn_wide.2 (HW.out _))).mono ?_; rintro e w6 ⟨rfl, rfl⟩))
              obtain ⟨r1, r2⟩ := HJ.out.stop HB9.out HL.out HX2.out HX3.out HM2.out HM3.out
              exact ⟨r1.from _, rfl, by rw [ldV_snoc]; exact r2⟩
            | false =>
              replace HL := hid (HL.out.trans (by rw [if_neg (by unfold dpBad; rw [hib, hne, dd0]; decide), if_neg (by omega)]))
              clear hib
              have nd0 : ¬ dk < 0 := by omega
              gi_wp2_with (first
                | ((try refine ⟨trivial, ?_⟩); gi_at_call 38; refine (CallsIn.inRound l (callsIn_wide.2 (HW.out _))).mono ?_; rintro e w6 ⟨rfl, rfl⟩))
              obtain ⟨r1, r2, r3⟩ := HJ.out.same HB9.out HL.out
              exact ⟨r1.from _, fun _ => r2, _, _, _, _, _, by rw [ldV_snoc]; exact r3⟩
          · have dd0 : decide (0 ≤ dk) = false := decide_eq_false hd0
            have nd0 : dk < 0 := by omega
            replace HL := hid (HL.out.trans (by rw [if_neg (by unfold dpBad; rw [hib, dd0]; simp), if_pos nd0]))
            clear hib hd0
            gi_wp2_with (first
              | ((try refine ⟨trivial, ?_⟩); gi_at_call 38; refine (CallsIn.inRound l (callsIn_wide.2 (HW.out _))).mono ?_; rintro e w6 ⟨rfl, rfl⟩)
              | (gi_at_builtin; refine wpListIn_append_q _ rfl (.tmp 72) (.tmp 74) rfl g' off' cap' ((t : Int) :: op') (k : Int) rfl (QAB.out _ _) ⟨W1.heap.size, 0, none⟩ 1 rfl ((cell_of_row _ _ 0 _ _ _ (heapn _ _ _ (by simp))).trans rfl) hlen1 ?_; intro g2 off2 cap2 W4 hq4 hgr hor; have k4 := (hgr.block gB (by simp; omega) (fun e => hngB (by cases e; rfl))).trans (KAB.out _ _); have c4 := (cell_of_row _ _ 0 _ _ _ k4).trans rfl; have f4 := boxF 0 k4; have HQ4 := hid hq4; have HG4 := hid hgr; have HO4 := hid hor; clear hq4 hgr hor k4))
            obtain ⟨r1, r2, r3⟩ := HJ.out.new HB9.out ⟨nk0, nk1⟩ HL.out o2 (by omega) o4 HQ4.out HG4.out HO4.out
            exact ⟨r1.from _, fun _ => r2, _, _, _, _, _, by rw [ldV_snoc]; exact r3⟩
    case done =>
      rintro D ys W hD hS ⟨d', op', g', off', cap', hJ⟩ hdef
      have v0 : W.cell? ⟨gB, 0, none⟩ = some (.slice (some ⟨g', off', none⟩) (op'.length + 1) cap') := (cell_of_row _ _ 0 _ _ _ hJ.x5).trans rfl
      rw [hS] at hJ
      have hq := hJ.qb.tail
      have m2 := hMi (w.heap.size + 1) (by omega) (by omega) (by omega)
      have m3 := hMi (w.heap.size + 1 + 1) (by omega) (by omega) (by omega)
      have hcn := HI.out.cnt
      rw [List.length_cons] at hcn
      have hms : u.code.length - (Ds.length + 1) < u.code.length - Ds.length := by omega
      clear hcn
      by_cases hc1 : cap' = 1
      · subst hc1
        obtain ⟨off2, hsl, hq2⟩ := hq
        obtain rfl : off2 = off' := by
          unfold sliced at hsl
          simp at hsl
          exact hsl.symm
        clear hsl
        have HIN2 := hid (HI.out.next hbw m1 m2 m3 m4 hJ (HIN.out t ht) hD hdef hq2)
        clear hq2 hJ
        gi_wp2
        exact ⟨⟨D :: Ds, d', op', _, g', _, _, _, _, _, _, _, _, _, _, _, _, _, _, _, rfl, HIN2⟩, by simp only [List.length_cons, List.length_map]; exact hms⟩
      · obtain ⟨off2, hsl, hq2⟩ := hq
        obtain rfl : off2 = off' + 1 := by
          unfold sliced at hsl
          rw [if_neg hc1] at hsl
          simp [Addr.add] at hsl
          omega
        clear hsl
        have HIN2 := hid (HI.out.next hbw m1 m2 m3 m4 hJ (HIN.out t ht) hD hdef hq2)
        clear hq2 hJ
        gi_wp2
        exact ⟨⟨D :: Ds, d', op', _, g', _, _, _, _, _, _, _, _, _, _, _, _, _, _, _, rfl, HIN2⟩, by simp only [List.length_cons, List.length_map]; exact hms⟩
    case stop =>
      rintro D c pre W hD ⟨hp, _⟩ ⟨rfl, hx⟩ hdef
      gi_wp2
      have hds : ∀ E, E ∈ D :: Ds → w.heap.size ≤ E ∧ W.heap[E]? = some (.deferred (some [])) := by
        intro E hE
        rcases List.mem_cons.1 hE with rfl | h
        · exact ⟨by omega, hdef⟩
        · obtain ⟨k1, k2⟩ := HI.out.ds E h
          have hl := (Array.getElem?_eq_some_iff.1 k2).1
          exact ⟨k1, hx.low E _ (by omega) ((hbw.block E hl).trans k2) rfl⟩
      have hnd : (D :: Ds).Nodup := List.nodup_cons.2 ⟨fun h => by have hl := (Array.getElem?_eq_some_iff.1 (HI.out.ds D h).2).1; omega, HI.out.nd⟩
      refine dp_leave (Ds := D :: Ds) rfl rfl hx.hb hds hnd ((cell_of_row _ _ 0 _ _ _ hx.x2).trans rfl) ((cell_of_row _ _ 0 _ _ _ hx.x3).trans rfl) ?_
      intro W' _ hb'
      refine ⟨hb', ?_⟩
      have hcn := HI.out.cnt
      have han := HI.out.ans
      rw [List.length_cons] at hcn
      obtain ⟨f, hf⟩ : ∃ f, u.code.length - Ds.length = f + 1 := ⟨u.code.length - Ds.length - 1, by omega⟩
      rw [hf] at han
      unfold dpAll at han
      rw [show ((t : Int)).toNat = t from rfl, dpLeads_none hx.st hp] at han
      rw [← han]
      rfl
end Go.Proofs.Ytecpkjhfbmchgaa
