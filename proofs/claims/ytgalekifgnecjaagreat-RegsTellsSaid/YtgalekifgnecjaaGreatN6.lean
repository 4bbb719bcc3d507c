/- Press of package regs: the walk. Traffic of package regs. -/
import Derived.Test.YtgalekifgnecjaaGreatN1
import Derived.Sort.CutIn
import Derived.Deep.RegionWith
namespace Go.Proofs.YtgalekifgnecjaaGreat
open Go.RowKit

open Go.RowKit Go.Shelf
attribute [local go_sem] Oper.semAt_some
set_option maxRecDepth 100000 in
set_option maxHeartbeats 8000000 in
theorem press_yes (u : UntN) (ca : Option Addr) (cc : Nat) (ga : Option Addr) (gc : Nat) (w : World) (hm : UnM w u ca cc ga gc) (hlc : u.code.length ≤ 1000000) (hlg : u.guards.length ≤ 1000000) (hw : writB u = true) :
    Calls Tryz.prog 26 #[vU u ca cc ga gc] w (RetB (.tuple #[.int .i64 (pressN u), .int .i64 0]) w) := by
  have hn6 := writ_len hw
  have HM := hid hm; clear hm
  have HW := hid (fun w' (hb : Below w.heap.size w w') => writable_any u ca cc ga gc w' (HM.out.below hb) hlc hlg)
  rw [hw] at HW
  have HFO := hid (fun w' (hb : Below w.heap.size w w') => flowOf_any u ca cc ga gc w' (HM.out.below hb) hw)
  have HX1 := hid (heapn w (oU u ca cc ga gc) _ rfl)
  have HB := hid (bnew w (oU u ca cc ga gc))
  go_enter Tryz.func26, Tryz.ntmps26
  go_upto_region 1 with fail
  obtain ⟨w1, hw1⟩ : ∃ w1, w1 = w.alloc (oU u ca cc ga gc) := ⟨_, rfl⟩
  rw [← hw1] at HX1 HB
  rw [← hw1]
  clear hw1
  obtain ⟨k0, k1, k2, k3, k4, k5, k6⟩ := box7 HX1.out
  go_upto_region 4 with (first
    | (go_at_call 42; (with_reducible refine (HW.out _ HB.out).mono ?_); rintro e w2 ⟨rfl, hb⟩; obtain ⟨j0, j1, j2, j3, j4, j5, j6⟩ := box7 (keepBox hb HX1.out); have HX2 := hid (keepBox hb HX1.out); have HB2 := hid (HB.out.step hb); clear hb)
    | (go_at_call 48; (with_reducible refine (HFO.out _ HB2.out).mono ?_); rintro e w3 ⟨hb, v3, rfl, ho⟩; obtain ⟨va, vc, rfl, hrl⟩ := ho.rd; have HX3 := hid (keepBox hb HX2.out); have HB3 := hid (HB2.out.step hb); have HL3 := hid hrl; clear hb ho hrl))
  clear k0 k1 k2 k3 k4 k5 k6 j0 j1 j2 j3 j4 j5 j6
  obtain ⟨bf, hbf⟩ : ∃ b, b = w3.heap.size := ⟨_, rfl⟩
  obtain ⟨wa, hwa⟩ : ∃ wa, wa = w3.alloc (oFl u ca cc ga gc (.slice va (liveL u).length vc)) := ⟨_, rfl⟩
  have HFA : Hid (wa.heap[bf]? = some (oFl u ca cc ga gc (.slice va (liveL u).length vc))) := hid (by rw [hwa]; exact heapn _ _ _ hbf)
  have HXA : Hid (wa.heap[w.heap.size]? = some (oU u ca cc ga gc)) := hid (by rw [hwa]; exact keepBox (bnew _ _) HX3.out)
  have HBA : Hid (Below w.heap.size w wa) := hid (by rw [hwa]; exact HB3.out.step (bnew _ _))
  have HLA : Hid (RdLL wa va (liveL u)) := hid (by rw [hwa]; exact HL3.out.below (bnew _ _))
  rw [← hbf, ← hwa]
  clear hwa hbf HX1 HB HX2 HB2 HX3 HB3 HL3 HW HFO
  have HLEN : Hid ((liveL u).length = u.code.length) := hid (live_good u).len
  have HBY := hid (fun t (ht : t < u.code.length) w' (hb : Below w.heap.size w w') => byItself_any u t ht hn6 ca cc ga gc va (liveL u).length vc w' (HM.out.below hb).rc)
  have HND := hid (fun t (ht : t < u.code.length) (pa : Option Addr) (pc : Nat) (w' : World) (hb : Below wa.heap.size wa w') (hr : RdI w' pa (bySelf u t)) => neededF_any u ca cc ga gc (liveL u) va vc (bySelf u t) pa pc w' (HLA.out.below hb) hr (by rw [HLEN.out]; exact bySelf_in (writ_plain hw) ht) (by have := bySelf_len u t; omega) (live_few hw))
  obtain ⟨q0, q1, q2, q3, q4, q5, q6⟩ := box7 HXA.out
  go_upto_region 6 with fail
  clear q0 q1 q2 q3 q4 q5 q6
  go_loopg [5, 18] u.code.length (fun gh s5 s18 wr => ∃ t : Nat, t ≤ u.code.length ∧ gh = u.code.length - t ∧ s18 = .int .i64 t ∧ s5 = .int .i64 (pressTo u t) ∧ Hid (Below wa.heap.size wa wr))
  case atStart => exact ⟨0, Nat.zero_le _, rfl, rfl, rfl, hid (Below.refl _ _)⟩
  case round =>
    obtain ⟨t, ht, rfl, rfl, rfl, HQ⟩ := hrel
    have HBR := hid (HBA.out.trans (HQ.out.mono HBA.out.size))
    by_cases hlt : t < u.code.length
    · obtain ⟨bc, oc, hca, _, c0, c1, c2, c3⟩ := (HM.out.rc.below HBR.out) t hlt
      subst hca
      have nt : (t : Int) < (u.code.length : Int) := by omega
      go_upto_region 8 with fail
      obtain ⟨wx, hwx⟩ : ∃ wx, wx = wr.alloc (.cells #[.int .i64 u.code[t].op, .int .i64 u.code[t].a, .int .i64 u.code[t].b, .int .i64 u.code[t].c] 85) := ⟨_, rfl⟩
      obtain ⟨bx, hbx⟩ : ∃ b, b = wr.heap.size := ⟨_, rfl⟩
      have HXX : Hid (wx.heap[bx]? = some (.cells #[.int .i64 u.code[t].op, .int .i64 u.code[t].a, .int .i64 u.code[t].b, .int .i64 u.code[t].c] 85)) := hid (by rw [hwx]; exact heapn _ _ _ hbx)
      have HQX : Hid (Below wa.heap.size wa wx) := hid (by rw [hwx]; exact HQ.out.step (bnew _ _))
      have HBX : Hid (Below w.heap.size w wx) := hid (by rw [hwx]; exact HBR.out.step (bnew _ _))
      rw [← hwx, ← hbx]
      clear hwx hbx c0 c1 c2 c3
      have HFX := hid (keepBox HQX.out HFA.out)
      have HNL := hid (needL_len (liveL u) 200 (live_few hw) (bySelf u t))
      have HNB := hid (bySelf_len u t)
      go_cut [8] from 23 to 27 (fun s8 wy => OwnI wy wx.heap.size s8 (needL (liveL u) (bySelf u t)) ∧ Hid (Below wx.heap.size wx wy))
      case first =>
        have HFXd : Hid (wx.drew.heap[bf]? = some (oFl u (some ⟨bc, oc, none⟩) cc ga gc (.slice va (liveL u).length vc))) := HFX
        obtain ⟨k0, k1, k2, k3, k4, k5, k6, k7⟩ := box8 HFX.out
        have HQXd : Hid (Below wa.heap.size wa wx.drew) := hid (HQX.out.step (bdrew _))
        have HBXd : Hid (Below w.heap.size w wx.drew) := hid (HBX.out.step (bdrew _))
        go_region_with (first
          | (go_at_call 73; (with_reducible refine (HBY.out t hlt _ HBXd.out).mono ?_); rintro e w7 ⟨hb, v7, rfl, ho⟩; obtain ⟨pa, pc, rfl, hrp⟩ := ho.rd; obtain ⟨j0, j1, j2, j3, j4, j5, j6, j7⟩ := box8 (keepBox hb HFXd.out); have HB7 := hid hb; have HR7 := hid hrp; clear hb ho hrp)
          | (go_at_call 72; (with_reducible refine (HND.out t hlt pa pc _ (HQXd.out.step HB7.out) HR7.out).mono ?_); rintro e w8 ⟨hb, v8, rfl, ho8⟩; have HB8 := hid hb; have HO8 := hid (OwnI.mono ho8 HB7.out.size); clear hb ho8))
        all_goals (go_wp2_with fail; go_meet; exact ⟨HO8.out, hid (((bdrew wx).step HB7.out).step HB8.out)⟩)
      case rest =>
        obtain ⟨hso, HY⟩ := hcut
        have HO := hid hso
        clear hso
        obtain ⟨b0, b1, b2, b3⟩ := box4 (keepBox HY.out HXX.out)
        have HQY := hid (HQX.out.step HY.out)
        obtain ⟨sa, sc, rfl, _⟩ := HO.out.rd
        have hlt2 : t < (liveL u).length := by rw [HLEN.out]; exact hlt
        obtain ⟨b4, off4, ai, ci, rfl, _, hc4, _⟩ := HLA.out t hlt2
        have HC4 := hid (fun wz (hb : Below wa.heap.size wa wz) => cell_later hb hc4)
        have HC7 := hid (fun wz (hb : Below wa.heap.size wa wz) => (show wz.cell? ⟨bf, 7, none⟩ = some (.slice (some ⟨b4, off4, none⟩) (liveL u).length vc) from (cell_of_row _ _ 7 _ _ _ (keepBox hb HFA.out)).trans rfl))
        have HWR := hid (fun wz => writes_any u.code[t] wz)
        have HPT : Hid (pressTo u (t + 1) = max (max (pressTo u t) (liveL u)[t].length) (if 0 ≤ writesI u.code[t] then addL (needL (liveL u) (bySelf u t)) [writesI u.code[t]] else needL (liveL u) (bySelf u t)).length) := hid (by
          show max (max (pressTo u t) ((liveL u).getD t []).length) (behindL u t).length = _
          unfold behindL
          rw [getD_in hlt, getD_in hlt2])
        have nlt : (t : Int) < ((liveL u).length : Int) := by omega
        have HAD := hid (fun (wz : World) (pa : Nat) (x : Int) (hb : Below wc.heap.size wc wz) (hr : RdI wz (some ⟨pa, 0, none⟩) [x]) (hp : wc.heap.size ≤ pa) => add_one _ _ (needL (liveL u) (bySelf u t)) x pa wz (OwnI.later HO.out hb) hr (by have h1 := HNL.out; have h2 := HNB.out; omega) (own_new HO.out hp) (Nat.le_trans HY.out.size hb.size))
        have HOB := hid (own_ge HO.out)
        clear hc4
        generalize u.code[t] = y at *
        generalize writesI y = wi at *
        generalize needL (liveL u) (bySelf u t) = N at *
        by_cases hwi : (0 : Int) ≤ wi
        case' pos =>
          rw [if_pos hwi] at HPT
          go_upto_region 12 with (first
            | (go_at_call 71; (with_reducible refine (HWR.out _).mono ?_); rintro e w7 ⟨rfl, hb⟩; have HB7 := hid hb; have hsz := hb.size; clear hb)
            | (go_at_call 74; (with_reducible refine (HAD.out _ _ _ (HB7.out.step (bnew _ _)) (rd_one _ _ _) hsz).mono ?_); rintro e w9 ⟨v9, rfl, ho9, hg9, _⟩; have HO9 := hid ho9; have HG9 := hid hg9; clear ho9 hg9))
          obtain ⟨da, dc, rfl, _⟩ := HO9.out.rd
          have HQ9 : Hid (Below wa.heap.size wa w9) := hid (((HQY.out.step HB7.out).step (bnew _ _)).grown HG9.out (by have h1 := (HQY.out.step HB7.out).size; simp; omega) (fun r e => by have h1 := HOB.out r e; have h2 := HQX.out.size; omega))
          generalize addL N [wi] = M at *
        case' neg =>
          rw [if_neg hwi] at HPT
          go_upto_region 12 with (first
            | (go_at_call 71; (with_reducible refine (HWR.out _).mono ?_); rintro e w9 ⟨rfl, hb⟩; have HQ9 := hid (HQY.out.step hb); clear hb))
          generalize N = M at *
        all_goals
          have c4 := HC4.out _ HQ9.out
          have c7 := HC7.out _ HQ9.out
          generalize (liveL u)[t].length = lb at *
          generalize pressTo u t = pa0 at *
          have HR := HPT
          rcases Nat.lt_or_ge pa0 lb with h1 | h1
          · have n1 : (pa0 : Int) < (lb : Int) := by omega
            rcases Nat.lt_or_ge lb M.length with h2 | h2
            · have n2 : (lb : Int) < (M.length : Int) := by omega
              go_wp2
              all_goals go_roundg (u.code.length - (t + 1))
              all_goals first
                | omega
                | exact ⟨t + 1, by omega, rfl, by go_num, by rw [HPT.out]; congr 1; omega, HQ9⟩
            · have n2 : ¬ (lb : Int) < (M.length : Int) := by omega
              go_wp2
              all_goals go_roundg (u.code.length - (t + 1))
              all_goals first
                | omega
                | exact ⟨t + 1, by omega, rfl, by go_num, by rw [HPT.out]; congr 1; omega, HQ9⟩
          · have n1 : ¬ (pa0 : Int) < (lb : Int) := by omega
            rcases Nat.lt_or_ge pa0 M.length with h2 | h2
            · have n2 : (pa0 : Int) < (M.length : Int) := by omega
              go_wp2
              all_goals go_roundg (u.code.length - (t + 1))
              all_goals first
                | omega
                | exact ⟨t + 1, by omega, rfl, by go_num, by rw [HPT.out]; congr 1; omega, HQ9⟩
            · have n2 : ¬ (pa0 : Int) < (M.length : Int) := by omega
              go_wp2
              all_goals go_roundg (u.code.length - (t + 1))
              all_goals first
                | omega
                | exact ⟨t + 1, by omega, rfl, by go_num, by rw [HPT.out]; congr 1; omega, HQ9⟩
    · obtain rfl : t = u.code.length := by omega
      have nt : ¬ (u.code.length : Int) < (u.code.length : Int) := by omega
      go_wp2
      go_ret2
      exact ⟨rfl, HBR.out⟩
set_option maxRecDepth 100000 in
set_option maxHeartbeats 8000000 in
theorem press_no (u : UntN) (ca : Option Addr) (cc : Nat) (ga : Option Addr) (gc : Nat) (w : World) (hm : UnM w u ca cc ga gc) (hlc : u.code.length ≤ 1000000) (hlg : u.guards.length ≤ 1000000) (hw : writB u = false) :
    Calls Tryz.prog 26 #[vU u ca cc ga gc] w (RetB (.tuple #[.int .i64 0, .int .i64 1]) w) := by
  have HW := hid (fun w' hb => writable_any u ca cc ga gc w' (hm.below hb) hlc hlg)
  rw [hw] at HW
  have HX1 := hid (heapn w (oU u ca cc ga gc) _ rfl)
  have HB := hid (bnew w (oU u ca cc ga gc))
  go_enter Tryz.func26, Tryz.ntmps26
  go_upto_region 1 with fail
  obtain ⟨w1, hw1⟩ : ∃ w1, w1 = w.alloc (oU u ca cc ga gc) := ⟨_, rfl⟩
  rw [← hw1] at HX1 HB
  rw [← hw1]
  clear hw1
  obtain ⟨k0, k1, k2, k3, k4, k5, k6⟩ := box7 HX1.out
  go_wp2_with (first
    | (go_at_call 42; (with_reducible refine (HW.out _ HB.out).mono ?_); rintro e w2 ⟨rfl, hb⟩; have HB2 := hid (HB.out.step hb); clear hb))
  go_ret2
  exact ⟨rfl, HB2.out⟩
theorem press_any (u : UntN) (ca : Option Addr) (cc : Nat) (ga : Option Addr) (gc : Nat) (w : World) (hm : UnM w u ca cc ga gc) (hlc : u.code.length ≤ 1000000) (hlg : u.guards.length ≤ 1000000) :
    Calls Tryz.prog 26 #[vU u ca cc ga gc] w (RetB (.tuple #[.int .i64 (if writB u = true then pressN u else 0 : Nat), .int .i64 (if writB u = true then 0 else 1)]) w) := by
  cases h : writB u with
  | true => exact press_yes u ca cc ga gc w hm hlc hlg h
  | false => exact press_no u ca cc ga gc w hm hlc hlg h

theorem k79 (x : InsN) (n : Int) (p : Nat) (w : World) (hp : w.cell? ⟨p, 0, none⟩ = some (.int .i64 n)) : Calls Tryz.prog 79 #[vI x, .pointer (some ⟨p, 0, none⟩)] w (RetB (.bool (opB n x)) w) := by
  have H : Hid (opB n x = (x.op == n)) := hid rfl
  have HB := hid (bnew w (.cells #[.int .i64 x.op, .int .i64 x.a, .int .i64 x.b, .int .i64 x.c] 85))
  have hp1 := cell_later HB.out hp
  obtain ⟨k0, k1, k2, k3⟩ := box4 (heapn w (.cells #[.int .i64 x.op, .int .i64 x.a, .int .i64 x.b, .int .i64 x.c] 85) _ rfl)
  generalize opB n x = r at *
  go_enter Tryz.func79, Tryz.ntmps79
  go_wp2
  go_ret
  exact ⟨by rw [H.out]; rfl, HB.out⟩
theorem enters79 : Enters 79 := enters_of Tryz.func79 (by kernel_rfl) rfl
/-- How many instructions of a kind. -/
def manyN (u : UntN) (n : Int) : Nat := (u.code.filter (opB n)).length
set_option maxRecDepth 100000 in
set_option maxHeartbeats 4000000 in
theorem many_any (u : UntN) (n : Int) (ca : Option Addr) (cc : Nat) (ga : Option Addr) (gc : Nat) (b : Nat) (w : World) (hu : w.heap[b]? = some (oU u ca cc ga gc)) (hc : RdC w ca u.code) (hlc : u.code.length ≤ 1000000) :
    Calls Tryz.prog 77 #[.int .i64 n, .pointer (some ⟨b, 0, none⟩)] w (RetB (.int .i64 (manyN u n)) w) := by
  have HB := hid (bnew w (.cells #[.int .i64 n] 3))
  have HN := hid ((cell_of_row _ _ 0 _ _ _ (heapn w (.cells #[.int .i64 n] 3) _ rfl)).trans rfl)
  have HF := hid (filterC_any 79 enters79 #[.pointer (some ⟨w.heap.size, 0, none⟩)] (opB n) u.code ca cc (w.alloc (.cells #[.int .i64 n] 3)) (fun x _ w' hb => k79 x n w.heap.size w' (cell_later hb HN.out)) (hc.below HB.out) hlc)
  have k5 : (w.alloc (.cells #[.int .i64 n] 3)).cell? ⟨b, 5, none⟩ = some (.slice ca u.code.length cc) := cell_later HB.out ((cell_of_row _ _ 5 _ _ _ hu).trans rfl)
  clear HN
  go_enter Tryz.func77, Tryz.ntmps77
  go_wp2_with (first
    | (go_at_call 78; (with_reducible refine HF.out.mono ?_); rintro e w1 ⟨hb, v, rfl, ho⟩; obtain ⟨fa, fc, rfl, _⟩ := ho.rd; have HB1 := hid (HB.out.step hb); clear hb ho))
  go_ret
  exact ⟨rfl, HB1.out⟩
set_option maxRecDepth 100000 in
set_option maxHeartbeats 4000000 in
theorem traffic_any (u : UntN) (ca : Option Addr) (cc : Nat) (ga : Option Addr) (gc : Nat) (w : World) (hm : UnM w u ca cc ga gc) (hlc : u.code.length ≤ 1000000) (hlg : u.guards.length ≤ 1000000) :
    Calls Tryz.prog 28 #[vU u ca cc ga gc] w (RetB (.tuple #[.int .i64 (if plainB u = true then manyN u 33 else 0 : Nat), .int .i64 (if plainB u = true then manyN u 34 else 0 : Nat), .int .i64 (if plainB u = true then 0 else 1)]) w) := by
  have HP := hid (fun w' (hb : Below w.heap.size w w') => plain_regs u ca cc ga gc w' (hm.below hb) hlc hlg)
  have HX1 := hid (heapn w (oU u ca cc ga gc) _ rfl)
  have HB := hid (bnew w (oU u ca cc ga gc))
  have HMA := hid (fun (n : Int) w' (hb : Below w.heap.size w w') (hu : w'.heap[w.heap.size]? = some (oU u ca cc ga gc)) => many_any u n ca cc ga gc w.heap.size w' hu (hm.below hb).rc hlc)
  obtain ⟨k0, k1, k2, k3, k4, k5, k6⟩ := box7 HX1.out
  cases hp : plainB u with
  | true =>
    rw [hp] at HP
    go_enter Tryz.func28, Tryz.ntmps28
    go_wp2_with (first
      | (go_at_call 76; (with_reducible refine (HP.out _ HB.out).mono ?_); rintro e w2 ⟨rfl, hb⟩; have HX2 := hid (keepBox hb HX1.out); have HB2 := hid (HB.out.step hb); have A1 := hid (HMA.out 33 w2 HB2.out HX2.out); clear hb)
      | (go_at_call 77; first
        | ((with_reducible refine A1.out.mono ?_); rintro e w3 ⟨rfl, hb⟩; have A2 := hid (HMA.out 34 w3 (HB2.out.step hb) (keepBox hb HX2.out)); have HB3 := hid (HB2.out.step hb); clear hb A1)
        | ((with_reducible refine A2.out.mono ?_); rintro e w4 ⟨rfl, hb⟩; have HB4 := hid (HB3.out.step hb); clear hb)))
    all_goals exact bodyPost_ret (v := .tuple #[.int .i64 (manyN u 33), .int .i64 (manyN u 34), .int .i64 0]) (by simp [results, Tryz.results28, go_sem]) rfl ⟨rfl, HB4.out⟩
  | false =>
    rw [hp] at HP
    go_enter Tryz.func28, Tryz.ntmps28
    go_wp2_with (first
      | (go_at_call 76; (with_reducible refine (HP.out _ HB.out).mono ?_); rintro e w2 ⟨rfl, hb⟩; have HB2 := hid (HB.out.step hb); clear hb))
    all_goals exact bodyPost_ret (v := .tuple #[.int .i64 0, .int .i64 0, .int .i64 1]) (by simp [results, Tryz.results28, go_sem]) rfl ⟨rfl, HB2.out⟩
end Go.Proofs.YtgalekifgnecjaaGreat
