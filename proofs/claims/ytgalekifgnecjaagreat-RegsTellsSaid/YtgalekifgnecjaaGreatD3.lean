/- groups, least, Least and Groups of package regs. -/
import Derived.Test.YtgalekifgnecjaaGreatD2
namespace Go.Proofs.YtgalekifgnecjaaGreat
open Go.RowKit Go.Shelf
attribute [local go_sem] Oper.semAt_some

/-- The blocks that are not the body's, where it owns the blocks of S. -/
def MiS (S : Nat → Prop) (_ : World) (k : Nat) : Prop := ¬ S k
def WFS (S : Nat → Prop) (W : World) : Prop := ∀ k, S k → k < W.heap.size
theorem fenc_set (S : Nat → Prop) : Fenc (MiS S) (WFS S) := by
  refine ⟨fun A B hw hb => ⟨fun k hk => Nat.lt_of_lt_of_le (hw k hk) hb.size, fun k m => m, fun k h1 _ hs => ?_⟩, fun W l o o' hl ho hw => ⟨fun k hk => ?_, fun k m => m⟩⟩
  · have := hw k hs
    omega
  · have := hw k hk
    simpa [World.putObj] using this
/-- The contract of the iterator that groups returns. -/
theorem groups_seq (n : Nat) (hn : 1 ≤ n) {Mi : World → Nat → Prop} {WF : World → Prop} (hFe : Fenc Mi WF) (u : UntN) (hlen : u.code.length ≤ 600) (ca : Option Addr) (cc : Nat) (ga : Option Addr) (gc : Nat) (gu gf gb : Nat)
    (w : World) (hU : w.heap[gu]? = some (oU u ca cc ga gc)) (hF : w.heap[gf]? = some (.cells #[.slice (some ⟨gb, 0, none⟩) u.code.length u.code.length] 28)) (hB : BI w gb (firstsL u.code)) (hM : UnO Mi w u ca cc ga gc) (hOu : Mi w gu) (hOf : Mi w gf) (hOb : Mi w gb) (hw : WF w) :
    SeqG n Tryz.prog 114 #[.pointer (some ⟨gu, 0, none⟩), .pointer (some ⟨gf, 0, none⟩)] (fun x : GrX => #[vGr x]) (GrFact Mi) (KeepK Mi WF) (fun xs => xs.map GrX.g = groupsL u) (fun pre => pre.map GrX.g <+: groupsL u) w := by
  intro l J Jp W hb hJ hY h0
  have hk := KeepM.of_below hFe hw hb
  obtain ⟨hU2, hOu2⟩ := hk.box ⟨hU, hOu⟩
  obtain ⟨hF2, hOf2⟩ := hk.box ⟨hF, hOf⟩
  obtain ⟨cur, hc, hx⟩ := hB
  obtain ⟨hB2, hOb2⟩ := hk.box ⟨hc, hOb⟩
  exact groups1_in n hn hFe l u hlen ca cc ga gc gu gf gb (firstsL u.code) (fsTo_length u.code u.code.length) W.heap.size J Jp hJ hY W hU2 hF2 ⟨cur, hB2, hx⟩ (hM.keep hk) hOu2 hOf2 hOb2 hk.wf h0
/-- What groups returns. -/
structure GrpsAt (u : UntN) (ca : Option Addr) (cc : Nat) (ga : Option Addr) (gc : Nat) (B gu gf gb : Nat) (w : World) : Prop where
  hu : w.heap[gu]? = some (oU u ca cc ga gc)
  hf : w.heap[gf]? = some (.cells #[.slice (some ⟨gb, 0, none⟩) u.code.length u.code.length] 28)
  hb : BI w gb (firstsL u.code)
  lu : B ≤ gu
  lf : B ≤ gf
  lb : B ≤ gb
def GrpsRet (u : UntN) (ca : Option Addr) (cc : Nat) (ga : Option Addr) (gc : Nat) (w : World) (e : Ending) (w' : World) : Prop :=
  Below w.heap.size w w' ∧ ∃ gu gf gb, e = .returned (.func (.func 114) #[] #[.pointer (some ⟨gu, 0, none⟩), .pointer (some ⟨gf, 0, none⟩)]) ∧ GrpsAt u ca cc ga gc w.heap.size gu gf gb w'
set_option maxRecDepth 100000 in
set_option maxHeartbeats 8000000 in
theorem groups_any (u : UntN) (ca : Option Addr) (cc : Nat) (ga : Option Addr) (gc : Nat) (w : World) (hm : UnM w u ca cc ga gc) (hlen : u.code.length ≤ 1000000) :
    Calls Tryz.prog 51 #[vU u ca cc ga gc] w (GrpsRet u ca cc ga gc w) := by
  have HFI := hid (fun w' hb => firsts_any u ca cc ga gc w' (hm.below hb) hlen)
  have hfl : (firstsL u.code).length = u.code.length := fsTo_length u.code u.code.length
  have HFL := hid hfl
  clear hfl
  have HX1 := hid (heapn w (oU u ca cc ga gc) _ rfl)
  have HB := hid (bnew w (oU u ca cc ga gc))
  have HS := hid (World.size_alloc w (oU u ca cc ga gc))
  go_enter Tryz.func51, Tryz.ntmps51
  go_upto_region 1 with fail
  obtain ⟨w1, hw1⟩ : ∃ w1, w1 = w.alloc (oU u ca cc ga gc) := ⟨_, rfl⟩
  rw [← hw1] at HX1 HB HS
  rw [← hw1]
  clear hw1
  obtain ⟨k0, k1, k2, k3, k4, k5, k6⟩ := box7 HX1.out
  go_wp2_with (first
    | (go_at_call 80; (with_reducible refine (HFI.out _ HB.out).mono ?_); rintro e w2 ⟨hb, g, rfl, hbi, hg⟩; have HB2 := hid hb; have HI2 := hid hbi; have HG2 := hid hg; clear hb hbi hg))
  have hrow : w2.heap[w.heap.size]? = some (oU u ca cc ga gc) := keepBox HB2.out HX1.out
  have hsz : w.heap.size ≤ w2.heap.size := by have h1 := HB2.out.size; have h2 := HS.out; omega
  have hgw : w.heap.size ≤ g := by have h1 := HG2.out; have h2 := HS.out; omega
  rw [HFL.out]
  go_ret
  refine ⟨(HB.out.step HB2.out).step (bnew _ _), w.heap.size, w2.heap.size, g, rfl, keepBox (bnew _ _) hrow, heapn _ _ _ rfl, HI2.out.below (bnew _ _), Nat.le_refl _, hsz, hgw⟩

theorem foldMax_snoc (l : List GrpN) (g : GrpN) : leastL (l ++ [g]) = max (leastL l) g.reads.length := by simp [leastL]
/-- The loop of least. -/
structure LeI (B bn : Nat) (w W0 : World) (pre : List GrX) (W : World) : Prop where
  hb : Below B w W
  hn : W.heap[bn]? = some (.cells #[.int .i64 (leastL (pre.map GrX.g))] 3)
set_option maxRecDepth 100000 in
set_option maxHeartbeats 8000000 in
theorem least_any (u : UntN) (ca : Option Addr) (cc : Nat) (ga : Option Addr) (gc : Nat) (w : World) (hm : UnM w u ca cc ga gc) (hlen : u.code.length ≤ 600) :
    Calls Tryz.prog 46 #[vU u ca cc ga gc] w (RetB (.int .i64 (leastN u)) w) := by
  have HG := hid (fun w' hb => groups_any u ca cc ga gc w' (hm.below hb) (by omega))
  have HM := hid hm
  clear hm
  refine (callsIn_wide (n := 20)).1 (callsIn_of_wpAt Tryz.func46 rfl ?_)
  simp only [Tryz.ntmps46, List.size_toArray, List.length_cons, List.length_nil, Nat.reduceAdd, Nat.reduceSub, Array.replicate_succ, Array.replicate_zero, List.push_toArray, List.append_toArray, List.nil_append, List.cons_append]
  have HX1 := hid (heapn w (oU u ca cc ga gc) _ rfl)
  have HB := hid (bnew w (oU u ca cc ga gc))
  have HS := hid (World.size_alloc w (oU u ca cc ga gc))
  refine WpAt.seq (WpAt.of (wpIn_wide.2 ?_))
  go_wp2
  obtain ⟨w1, hw1⟩ : ∃ w1, w1 = w.alloc (oU u ca cc ga gc) := ⟨_, rfl⟩
  rw [← hw1] at HX1 HB HS
  rw [← hw1]
  clear hw1
  have HX2 := hid (heapn w1 (.cells #[.int .i64 1] 3) _ rfl)
  have HX1b := hid (keepBox (bnew w1 (.cells #[.int .i64 1] 3)) HX1.out)
  have HBb := hid (HB.out.step (bnew w1 (.cells #[.int .i64 1] 3)))
  have HSb := hid (World.size_alloc w1 (.cells #[.int .i64 1] 3))
  refine WpAt.seq (WpAt.of (wpIn_wide.2 ?_))
  go_wp2
  obtain ⟨w2, hw2⟩ : ∃ w2, w2 = w1.alloc (.cells #[.int .i64 1] 3) := ⟨_, rfl⟩
  rw [← hw2] at HX2 HX1b HBb HSb
  rw [← hw2]
  clear hw2
  obtain ⟨k0, k1, k2, k3, k4, k5, k6⟩ := box7 HX1b.out
  refine WpAt.seq (WpAt.seq (WpAt.of (wpIn_wide.2 ?_)))
  go_wp2_with (first
    | (go_at_call 51; (with_reducible refine (HG.out _ HBb.out).mono ?_); rintro e w3 ⟨hb, gu, gf, gb, rfl, hga⟩; have HB3 := hid hb; have HA3 := hid hga; clear hb hga))
  clear k0 k1 k2 k3 k4 k5 k6
  obtain ⟨bn, hbn⟩ : ∃ b, b = w1.heap.size := ⟨_, rfl⟩
  rw [← hbn] at HX2 HSb
  rw [← hbn]
  have HBN : Hid (w.heap.size ≤ bn) := hid (by rw [hbn]; exact HB.out.size)
  clear hbn
  have hn3 : w3.heap[bn]? = some (.cells #[.int .i64 1] 3) := keepBox HB3.out HX2.out
  have hb3 : Below w.heap.size w w3 := HBb.out.step HB3.out
  have hsz := hb3.size
  have hs2 : bn < w2.heap.size := lt_of_heap HX2.out
  have hs3 : bn < w3.heap.size := lt_of_heap hn3
  have hmi : ∀ k, k ≠ bn → MiS (fun k => k = bn) w3 k := fun k h => h
  have hun : UnO (MiS (fun k => k = bn)) w3 u ca cc ga gc := by
    have hbn := HBN.out
    refine ⟨HM.out.below hb3, fun h0 b o e => ?_, fun h0 b o e => ?_⟩
    · obtain ⟨b', o', e', hl, _⟩ := HM.out.rc 0 h0
      rw [e] at e'
      cases e'
      exact hmi b (by omega)
    · obtain ⟨b', o', e', hl, _⟩ := HM.out.rg 0 h0
      rw [e] at e'
      cases e'
      exact hmi b (by omega)
  have hlu := HA3.out.lu
  have hlf := HA3.out.lf
  have hlb := HA3.out.lb
  have hseq := groups_seq 19 (by omega) (fenc_set (fun k => k = bn)) u hlen ca cc ga gc gu gf gb w3 HA3.out.hu HA3.out.hf HA3.out.hb hun (hmi _ (by omega)) (hmi _ (by omega)) (hmi _ (by omega)) (fun k hk => by rw [hk]; exact hs3)
  refine WpAt.block (wpAt_range (α := GrX) rfl (by omega) (gf := 114) (lb := #[.pointer (some ⟨gu, 0, none⟩), .pointer (some ⟨gf, 0, none⟩)]) rfl (enters_of Tryz.func114 (by kernel_rfl) rfl) hseq KeepK.trans (keep_k (fenc_set _)) (Below.refl _ _) (fun _ => rfl)
    (fun pre W => LeI w.heap.size bn w w3 pre W) (fun ch pre W => False) ?hI ?h0
    (fun x a' W => ∃ bG, a' = ⟨#[vU u ca cc ga gc, .pointer (some ⟨w.heap.size, 0, none⟩), .int .i64 0, .pointer (some ⟨bn, 0, none⟩), .pointer (some ⟨bG, 0, none⟩), vU u ca cc ga gc, .func (.func 114) #[] #[.pointer (some ⟨gu, 0, none⟩), .pointer (some ⟨gf, 0, none⟩)], vGr x, undef, undef, undef, undef, undef, undef], []⟩ ∧ W.heap[bG]? = some (.cells #[.int .i64 x.g.frm, .int .i64 x.g.til, .slice x.a x.g.reads.length x.c, .int .i64 x.g.wr] 107)) ?hAx ?assign ?body ?done ?panic)
  case hI =>
    rintro pre A B row ⟨h1, h2⟩ hg hr
    refine ⟨below_grownF h1 hg h1.size (fun r e => by have := (hr r e).1; omega), (grown_cells hg (fun r e => (hr r e).2) h2 rfl).trans h2⟩
  case h0 => exact ⟨hb3, hn3⟩
  case hAx =>
    rintro x a' _ A B row ⟨bG, rfl, hx⟩ hg hr
    exact ⟨bG, rfl, (grown_cells hg (fun r e => (hr r e).2) hx rfl).trans hx⟩
  case assign =>
    intro l pre x W K hI hF hK
    gi_wp2
    refine hK _ _ ((KeepsOthers.alloc _ _).from _) (fun hw => KeepM.of_below (fenc_set _) hw (bnew _ _)) ⟨hI.hb.step (bnew _ _), keepBox (bnew _ _) hI.hn⟩ ⟨_, rfl, heapn _ _ _ rfl⟩
  case body =>
    rintro l pre x a' W ⟨h1, h2⟩ ⟨bG, rfl, hx⟩ hpre
    obtain ⟨q0, q1, q2, q3⟩ := box4 hx
    have v0 := (cell_of_row _ _ 0 _ _ _ h2).trans rfl
    have f0 := boxF 0 h2
    have hpost : ∀ m : Nat, m = max (leastL (pre.map GrX.g)) x.g.reads.length → ∀ a2, ownPostP w3.heap.size (KeepK (MiS fun k => k = bn) (WFS fun k => k = bn)) (fun pre W => LeI w.heap.size bn w w3 pre W) (fun _ _ _ => False) (pre ++ [x]) W Exit.normal a2 (W.setCell ⟨bn, 0, none⟩ (.int .i64 m)) := by
      intro m hm a2
      refine ⟨(KeepsOthers.setCell _ _ _).from _, fun hw => ⟨fun k hk => by simpa using hw k hk, rfl, rfl, rfl, by simp, fun k o m hk _ => ⟨(heap_setCell_other _ _ _ _ (show k ≠ bn from m)).trans hk, m⟩⟩, h1.setCell (p := ⟨bn, 0, none⟩) HBN.out _, ?_⟩
      rw [List.map_append, List.map_singleton, foldMax_snoc, ← hm]
      exact heap_setCell_same _ _ 0 _ _ _ h2
    rcases Nat.lt_or_ge (leastL (pre.map GrX.g)) x.g.reads.length with hlt | hge
    · have n1 : (leastL (pre.map GrX.g) : Int) < (x.g.reads.length : Int) := by omega
      gi_wp2
      all_goals exact hpost _ (by omega) _
    · have n1 : ¬ (leastL (pre.map GrX.g) : Int) < (x.g.reads.length : Int) := by omega
      gi_wp2
      all_goals exact hpost _ (by omega) _
  case done =>
    rintro D xs W hD hS ⟨h1, h2⟩ hdef
    have v0 : W.cell? ⟨bn, 0, none⟩ = some (.int .i64 (leastN u)) := by rw [cell_of_row _ _ 0 _ _ _ h2, hS]; rfl
    dsimp only
    refine WpAt.seq (n := 20) (WpAt.of (n := 20) ?_)
    gi_wp2
    refine WpAt.of (n := 20) ?_
    gi_wp2
    refine leaves_marks [D] W h1 (fun D' h => by rw [List.mem_singleton.1 h]; exact ⟨by omega, hdef⟩) (by simp) (fun W' hk hb' => ⟨_, ?_, rfl, hb'⟩)
    simp [results, Tryz.results46, go_sem]
  case panic =>
    rintro D ch pre W hD _ h
    exact h.elim
theorem writ_plain {u : UntN} (h : writB u = true) : plainB u = true := by
  simp only [writB, Bool.and_eq_true] at h
  exact h.1.1.1.1.1
theorem writ_len {u : UntN} (h : writB u = true) : u.code.length ≤ 600 := (plain_leads (writ_plain h)).2.1
set_option maxRecDepth 100000 in
set_option maxHeartbeats 8000000 in
theorem leastFn_any (u : UntN) (ca : Option Addr) (cc : Nat) (ga : Option Addr) (gc : Nat) (w : World) (hm : UnM w u ca cc ga gc) (hlc : u.code.length ≤ 1000000) (hlg : u.guards.length ≤ 1000000) :
    Calls Tryz.prog 24 #[vU u ca cc ga gc] w (RetB (.tuple #[.int .i64 (if writB u = true then leastN u else 0 : Nat), .int .i64 (if writB u = true then 0 else 1)]) w) := by
  have HW := hid (fun w' hb => writable_any u ca cc ga gc w' (hm.below hb) hlc hlg)
  have HL := hid (fun w' hb (h : writB u = true) => least_any u ca cc ga gc w' (hm.below hb) (writ_len h))
  have HX1 := hid (heapn w (oU u ca cc ga gc) _ rfl)
  have HB := hid (bnew w (oU u ca cc ga gc))
  go_enter Tryz.func24, Tryz.ntmps24
  go_upto_region 1 with fail
  obtain ⟨w1, hw1⟩ : ∃ w1, w1 = w.alloc (oU u ca cc ga gc) := ⟨_, rfl⟩
  rw [← hw1] at HX1 HB
  rw [← hw1]
  clear hw1
  obtain ⟨k0, k1, k2, k3, k4, k5, k6⟩ := box7 HX1.out
  cases hwr : writB u with
  | true =>
    have HL2 := hid (fun w' hb => HL.out w' hb hwr)
    rw [hwr] at HW
    go_wp2_with (first
      | (go_at_call 42; (with_reducible refine (HW.out _ HB.out).mono ?_); rintro e w2 ⟨rfl, hb⟩; obtain ⟨j0, j1, j2, j3, j4, j5, j6⟩ := box7 (keepBox hb HX1.out); have HB2 := hid (HB.out.step hb); clear hb)
      | (go_at_call 46; (with_reducible refine (HL2.out _ HB2.out).mono ?_); rintro e w3 ⟨rfl, hb⟩; have HB3 := hid (HB2.out.step hb); clear hb))
    go_ret2
    exact ⟨rfl, HB3.out⟩
  | false =>
    rw [hwr] at HW
    go_wp2_with (first
      | (go_at_call 42; (with_reducible refine (HW.out _ HB.out).mono ?_); rintro e w2 ⟨rfl, hb⟩; obtain ⟨j0, j1, j2, j3, j4, j5, j6⟩ := box7 (keepBox hb HX1.out); have HB2 := hid (HB.out.step hb); clear hb))
    all_goals go_ret2
    all_goals exact ⟨rfl, HB2.out⟩
set_option maxRecDepth 100000 in
set_option maxHeartbeats 8000000 in
theorem groupsFn_any (u : UntN) (ca : Option Addr) (cc : Nat) (ga : Option Addr) (gc : Nat) (w : World) (hm : UnM w u ca cc ga gc) (hlc : u.code.length ≤ 1000000) (hlg : u.guards.length ≤ 1000000) :
    Calls Tryz.prog 29 #[vU u ca cc ga gc] w (fun e w' => Below w.heap.size w w' ∧ if writB u = true then ∃ g, e = .returned (.tuple #[.slice (some ⟨g, 0, none⟩) u.code.length u.code.length, .int .i64 0]) ∧ BI w' g (firstsL u.code) ∧ w.heap.size ≤ g else e = .returned (.tuple #[.slice none 0 0, .int .i64 1])) := by
  have HW := hid (fun w' hb => writable_any u ca cc ga gc w' (hm.below hb) hlc hlg)
  have HL := hid (fun w' hb => firsts_any u ca cc ga gc w' (hm.below hb) hlc)
  have hfl : (firstsL u.code).length = u.code.length := fsTo_length u.code u.code.length
  rw [show BlkRet (firstsL u.code) = fun w e w' => Below w.heap.size w w' ∧ ∃ g, e = .returned (.slice (some ⟨g, 0, none⟩) u.code.length u.code.length) ∧ BI w' g (firstsL u.code) ∧ w.heap.size ≤ g from by unfold BlkRet; rw [hfl]] at HL
  clear hfl
  have HX1 := hid (heapn w (oU u ca cc ga gc) _ rfl)
  have HB := hid (bnew w (oU u ca cc ga gc))
  go_enter Tryz.func29, Tryz.ntmps29
  go_upto_region 1 with fail
  obtain ⟨w1, hw1⟩ : ∃ w1, w1 = w.alloc (oU u ca cc ga gc) := ⟨_, rfl⟩
  rw [← hw1] at HX1 HB
  rw [← hw1]
  clear hw1
  obtain ⟨k0, k1, k2, k3, k4, k5, k6⟩ := box7 HX1.out
  cases hwr : writB u with
  | true =>
    rw [hwr] at HW
    go_wp2_with (first
      | (go_at_call 42; (with_reducible refine (HW.out _ HB.out).mono ?_); rintro e w2 ⟨rfl, hb⟩; obtain ⟨j0, j1, j2, j3, j4, j5, j6⟩ := box7 (keepBox hb HX1.out); have HB2 := hid (HB.out.step hb); clear hb)
      | (go_at_call 80; (with_reducible refine (HL.out _ HB2.out).mono ?_); rintro e w3 ⟨hb, g, rfl, hbi, hg⟩; have HB3 := hid (HB2.out.step hb); have HI := hid hbi; have HG := hid (Nat.le_trans HB2.out.size hg); clear hb hbi hg))
    go_ret2
    exact ⟨HB3.out, _, rfl, HI.out, HG.out⟩
  | false =>
    rw [hwr] at HW
    go_wp2_with (first
      | (go_at_call 42; (with_reducible refine (HW.out _ HB.out).mono ?_); rintro e w2 ⟨rfl, hb⟩; obtain ⟨j0, j1, j2, j3, j4, j5, j6⟩ := box7 (keepBox hb HX1.out); have HB2 := hid (HB.out.step hb); clear hb))
    all_goals go_ret2
    all_goals exact ⟨HB2.out, rfl⟩
end Go.Proofs.YtgalekifgnecjaaGreat
