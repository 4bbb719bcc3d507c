/- Check of package core. -/
import Derived.Test.YtecpkjhfbmchgaaU35
namespace Go.Proofs.Ytecpkjhfbmchgaa
open Go.RowKit

theorem ck_end {tmps : Array Value} {W w : World} {b3 : Nat} {e a c : Int} (h2 : tmps.getD 2 undef = .int .i64 e) (h3 : tmps.getD 3 undef = .pointer (some ⟨b3, 0, none⟩)) (hg : W.heap[b3]? = some (.cells #[.int .i64 a, .int .i64 c] 67 (0, 0))) (hb : Below w.heap.size w W) :
    bodyPost Try.prog Try.f18 (Ret2 (.int .i64 e) (.agg #[.int .i64 a, .int .i64 c]) w) Exit.ret { tmps := tmps, defers := [] } W := by
  refine bodyPost_ret (v := .tuple #[.int .i64 e, .agg #[.int .i64 a, .int .i64 c]]) ?_ rfl ⟨rfl, hb⟩
  simp only [Array.getD_eq_getD_getElem?] at h2 h3
  have c0 := (cell_of_row _ _ 0 _ _ _ hg).trans rfl
  have c1 := (cell_of_row _ _ 1 _ _ _ hg).trans rfl
  simp [results, Try.results18, h2, h3, c0, c1, go_sem]
theorem natz (n : Nat) : (n == 0) = ((n : Int) == 0) := by
  cases n with
  | zero => rfl
  | succ m => simp; omega
theorem selE_arg {s : SelN} (h : selE s = 0) : 0 ≤ s.args ∧ s.args ≤ 16 := by
  unfold selE at h
  split at h
  · cases h
  · split at h
    · cases h
    · rename_i h2
      exact (inN_iff _ _ _).1 (by simpa using h2)
theorem shp_len {p : PrgN} {k : Nat} (hk : k < p.shapes.length) (h : shpE p k = 0) : p.shapes[k].table.length = p.sels.length := by
  rw [shpE_eq hk] at h
  unfold shpS at h
  split at h
  · cases h
  · split at h
    · cases h
    · split at h
      · cases h
      · split at h
        · cases h
        · rename_i h4
          simp at h4
          exact h4.1.2
theorem ck_set {w1 : World} {b : Nat} {a1 a2 : Value} (h : w1.heap[b]? = some (.cells #[a1, a2] 67 (0, 0))) (x y : Value) : ((w1.setCell ⟨b, 0, none⟩ x).setCell ⟨b, 1, none⟩ y).heap[b]? = some (.cells #[x, y] 67 (0, 0)) := by
  have e := heap_setCell_same _ b 0 #[a1, a2] 67 x h
  exact heap_setCell_same _ b 1 _ 67 y e
theorem ck_below {w w1 : World} (hb : Below w.heap.size w w1) (x y : Value) : Below w.heap.size w ((w1.setCell ⟨w.heap.size + 1, 0, none⟩ x).setCell ⟨w.heap.size + 1, 1, none⟩ y) :=
  (hb.setCell (p := ⟨w.heap.size + 1, 0, none⟩) (by show w.heap.size ≤ w.heap.size + 1; omega) _).setCell (p := ⟨w.heap.size + 1, 1, none⟩) (by show w.heap.size ≤ w.heap.size + 1; omega) _
/-- Where Check finds an error. -/
def limB (p : PrgN) : Bool := decide (60 < p.shapes.length) || decide (400 < p.sels.length) || decide (400 < p.units.length)
def zeroB (p : PrgN) : Bool := p.shapes.length == 0 || p.units.length == 0
theorem chkP_eq (p : PrgN) : chkP p = if limB p = true then (3, -1, 0) else if zeroB p = true then (1, -1, 0) else
  if 0 ≤ selI p then (selE (p.sels.getD (selI p).toNat sel0), -1, selI p) else if 0 ≤ shpI p then (shpE p (shpI p).toNat, -1, shpI p) else
  if 0 ≤ untI p then ((chkU p (p.units.getD (untI p).toNat unt0)).1, untI p, (chkU p (p.units.getD (untI p).toNat unt0)).2) else if topB p = false then (1, -1, 0) else (0, 0, 0) := by
  unfold chkP limB zeroB
  simp only [Bool.or_eq_true, decide_eq_true_eq, beq_iff_eq, or_assoc]
/-- What Check returns. -/
def CkRet (p : PrgN) (w : World) : Ending → World → Prop := Ret2 (.int .i64 (chkP p).1) (.agg #[.int .i64 (chkP p).2.1, .int .i64 (chkP p).2.2]) w
set_option maxRecDepth 100000 in
set_option maxHeartbeats 4000000 in
theorem ckProg_any (p : PrgN) (q : PlN) (w : World) (ho : PgOk w p q) : Calls Try.prog 18 #[vP p q] w (CkRet p w) := by
  have HO := hid ho; clear ho
  unfold CkRet
  obtain ⟨sa, sc, la, lc, ua, uc⟩ := q
  have hhl := HO.out.h1
  have hsl := HO.out.h2
  have hul := HO.out.h3
  have HX1 := hid (heapn w (.cells #[.slice sa p.shapes.length sc, .slice la p.sels.length lc, .slice ua p.units.length uc, .int .i64 p.main, .int .i64 p.mk'] 26) _ rfl)
  have HX3 := hid (heapn (w.alloc (.cells #[.slice sa p.shapes.length sc, .slice la p.sels.length lc, .slice ua p.units.length uc, .int .i64 p.main, .int .i64 p.mk'] 26)) (.cells #[.int .i64 0, .int .i64 0] 67) _ rfl)
  have HX4 := hid (heapn ((w.alloc (.cells #[.slice sa p.shapes.length sc, .slice la p.sels.length lc, .slice ua p.units.length uc, .int .i64 p.main, .int .i64 p.mk'] 26)).alloc (.cells #[.int .i64 0, .int .i64 0] 67)) (.cells #[.int .i64 (-1), .int .i64 0] 67) _ rfl)
  simp only [World.size_alloc] at HX3 HX4
  replace HX1 := hid (keepBox (bnew _ (.cells #[.int .i64 (-1), .int .i64 0] 67)) (keepBox (bnew _ (.cells #[.int .i64 0, .int .i64 0] 67)) HX1.out))
  replace HX3 := hid (keepBox (bnew _ (.cells #[.int .i64 (-1), .int .i64 0] 67)) HX3.out)
  have HB := hid (((bnew w (.cells #[.slice sa p.shapes.length sc, .slice la p.sels.length lc, .slice ua p.units.length uc, .int .i64 p.main, .int .i64 p.mk'] 26)).step (bnew _ (.cells #[.int .i64 0, .int .i64 0] 67))).step (bnew _ (.cells #[.int .i64 (-1), .int .i64 0] 67)))
  obtain ⟨V, hV⟩ : ∃ V, V = chkP p := ⟨_, rfl⟩
  rw [← hV]
  rw [chkP_eq] at hV
  have HV := hid hV
  clear hV
  go_enter Try.func18, Try.ntmps18
  go_upto_region 2 with fail
  generalize ((w.alloc (.cells #[.slice sa p.shapes.length sc, .slice la p.sels.length lc, .slice ua p.units.length uc, .int .i64 p.main, .int .i64 p.mk'] 26)).alloc (.cells #[.int .i64 0, .int .i64 0] 67)).alloc (.cells #[.int .i64 (-1), .int .i64 0] 67) = w0 at *
  obtain ⟨j0, j1, j2, j3, j4⟩ := box5' HX1.out
  have y40 := (cell_of_row _ _ 0 _ _ _ HX4.out).trans rfl
  have y41 := (cell_of_row _ _ 1 _ _ _ HX4.out).trans rfl
  have y30 := (cell_of_row _ _ 0 _ _ _ HX3.out).trans rfl
  have y31 := (cell_of_row _ _ 1 _ _ _ HX3.out).trans rfl
  have f30 := boxF 0 HX3.out
  have f31 := boxF 1 HX3.out
  go_cut [29] (fun s29 wx => s29 = .bool (limB p) ∧ w0 = wx)
  case first =>
    have HL := hid (show limB p = (decide ((60 : Int) < (p.shapes.length : Int)) || decide ((400 : Int) < (p.sels.length : Int)) || decide ((400 : Int) < (p.units.length : Int))) by unfold limB; congr 1; congr 1; all_goals (simp only [decide_eq_decide]; omega))
    generalize limB p = v at *
    cases c1 : decide ((60 : Int) < (p.shapes.length : Int)) with
    | true =>
      rw [c1] at HL
      go_wp2
      go_meet
      exact ⟨by rw [HL.out]; rfl, rfl⟩
    | false =>
      rw [c1] at HL
      cases c2 : decide ((400 : Int) < (p.sels.length : Int)) with
      | true =>
        rw [c2] at HL
        go_wp2
        go_meet
        exact ⟨by rw [HL.out]; rfl, rfl⟩
      | false =>
        rw [c2] at HL
        cases c3 : decide ((400 : Int) < (p.units.length : Int)) with
        | true =>
          rw [c3] at HL
          go_wp2
          go_meet
          exact ⟨by rw [HL.out]; rfl, rfl⟩
        | false =>
          rw [c3] at HL
          go_wp2
          go_meet
          exact ⟨by rw [HL.out]; rfl, rfl⟩
  case rest =>
    obtain ⟨rfl, rfl⟩ := hcut
    cases hl : limB p with
    | true =>
      rw [if_pos hl] at HV
      go_wp2
      go_region
      go_wp2
      rw [HV.out]
      exact ck_end rfl rfl (ck_set HX3.out _ _) (ck_below HB.out _ _).drew
    | false =>
      rw [if_neg (by rw [hl]; decide)] at HV
      go_upto_region 4 with fail
      go_cut [40] (fun s40 wx => s40 = .bool (zeroB p) ∧ w0 = wx)
      case first =>
        have HL := hid (show zeroB p = (((p.shapes.length : Int) == 0) || ((p.units.length : Int) == 0)) by unfold zeroB; rw [natz, natz])
        generalize zeroB p = v at *
        cases c1 : ((p.shapes.length : Int) == 0) with
        | true =>
          rw [c1] at HL
          go_wp2
          go_meet
          exact ⟨by rw [HL.out]; rfl, rfl⟩
        | false =>
          rw [c1] at HL
          cases c3 : ((p.units.length : Int) == 0) with
          | true =>
            rw [c3] at HL
            go_wp2
            go_meet
            exact ⟨by rw [HL.out]; rfl, rfl⟩
          | false =>
            rw [c3] at HL
            go_wp2
            go_meet
            exact ⟨by rw [HL.out]; rfl, rfl⟩
      case rest =>
        obtain ⟨rfl, rfl⟩ := hcut
        cases hz : zeroB p with
        | true =>
          rw [if_pos hz] at HV
          go_wp2
          go_region
          go_wp2
          rw [HV.out]
          exact ck_end rfl rfl (ck_set HX3.out _ _) (ck_below HB.out _ _).drew
        | false =>
          rw [if_neg (by rw [hz]; decide)] at HV
          clear hl hz
          go_upto_region 7 with fail
          go_loopg [45] p.sels.length (fun gh s45 wr => ∃ k : Nat, k ≤ p.sels.length ∧ gh = p.sels.length - k ∧ s45 = .int .i64 k ∧ Hid (∀ x, x ∈ p.sels.take k → selE x = 0) ∧ Hid (Below w0.heap.size w0 wr))
          case atStart => exact ⟨0, Nat.zero_le _, rfl, rfl, hid (by simp), hid (Below.refl _ _)⟩
          case round =>
            obtain ⟨k, hk, rfl, rfl, HQ, HBR⟩ := hrel
            by_cases hlk : k < p.sels.length
            · -- [[
              obtain ⟨lb, lo, hla, _, s0, s1, s2, s3⟩ := (HO.out.pm.rs.below (HB.out.step HBR.out)) k hlk
              have nk : (k : Int) < (p.sels.length : Int) := by omega
              have HSN := hid (HO.out.sn _ (List.getElem_mem hlk))
              have HTK := hid (take_last hlk)
              have HIS := hid (idxP_some (p := fun s => selE s != 0) (l := p.sels) (i := k) hlk)
              have HGD := hid (getD_in (d := sel0) hlk)
              generalize p.sels[k] = sl at *
              dsimp only at hla
              subst hla
              go_upto_region 9 with fail
              have HXS := hid (heapn wr (oS sl) _ rfl)
              have hbS := bnew wr (oS sl)
              have HB2 := hid (HBR.out.step hbS)
              obtain ⟨bS, hbS'⟩ : ∃ b, b = wr.heap.size := ⟨_, rfl⟩
              rw [← hbS'] at HXS ⊢
              generalize wr.alloc (oS sl) = wg at *
              clear hbS' hbS s0 s1 s2 s3
              obtain ⟨b0, b1, b2, b3⟩ := box4 HXS.out
              have HN1 := hid (fun w => named_any sl.cls w HSN.out.1)
              have HN2 := hid (fun w => named_any sl.name w HSN.out.2)
              go_cut [59] (fun s59 wx => s59 = .bool (!(namedB sl.cls && namedB sl.name)) ∧ Hid (Below wg.heap.size wg wx))
              case first =>
                cases e1 : namedB sl.cls with
                | false =>
                  rw [e1] at HN1
                  go_wp2_with (go_at_call 37; (with_reducible refine (HN1.out _).mono ?_); clear HN1; rintro e w1 ⟨rfl, hb⟩; have HB6 := hid hb; have b1 := cell_later hb b1; clear hb)
                  go_meet
                  exact ⟨by rw [e1]; rfl, HB6⟩
                | true =>
                  rw [e1] at HN1
                  generalize namedB sl.name = nn at *
                  go_wp2_with (first
                    | (go_at_call 37; (with_reducible refine (HN1.out _).mono ?_); clear HN1; rintro e w1 ⟨rfl, hb⟩; have HB6 := hid hb; have b1 := cell_later hb b1; clear hb)
                    | (go_at_call 37; (with_reducible refine (HN2.out _).mono ?_); clear HN2; rintro e w2 ⟨rfl, hb⟩; have HB7 := hid hb; clear hb))
                  go_meet
                  exact ⟨by rw [e1]; rfl, hid (HB6.out.step HB7.out)⟩
              case rest =>
                obtain ⟨rfl, HB4⟩ := hcut
                have HBW := hid (HB.out.step (HB2.out.step HB4.out))
                have HY3 := hid (keepBox HB4.out (keepBox HB2.out HX3.out))
                obtain ⟨b0, b1, b2, b3⟩ := box4 (keepBox HB4.out HXS.out)
                have y30 := (cell_of_row _ _ 0 _ _ _ HY3.out).trans rfl
                have y31 := (cell_of_row _ _ 1 _ _ _ HY3.out).trans rfl
                have f30 := boxF 0 HY3.out
                have f31 := boxF 1 HY3.out
                have HWI := hid (fun w => within_any sl.args 0 16 w)
                cases hnn : (namedB sl.cls && namedB sl.name) with
                | false =>
                  have hse : selE sl = 4 := by unfold selE; rw [if_pos hnn]
                  have e : selI p = (k : Int) := HIS.out (by show (selE sl != 0) = true; rw [hse]; decide) (fun x hx => by show (selE x != 0) = false; rw [HQ.out x hx]; decide)
                  rw [e, if_pos (by omega), show ((k : Int)).toNat = k from rfl, HGD.out, hse] at HV
                  clear e
                  go_wp2
                  rw [HV.out]
                  exact ck_end rfl rfl (ck_set HY3.out _ _) (ck_below HBW.out _ _)
                | true =>
                  cases hin : inN sl.args 0 16 with
                  | false =>
                    have hse : selE sl = 1 := by unfold selE; rw [if_neg (by rw [hnn]; decide), if_pos hin]
                    rw [hin] at HWI
                    have e : selI p = (k : Int) := HIS.out (by show (selE sl != 0) = true; rw [hse]; decide) (fun x hx => by show (selE x != 0) = false; rw [HQ.out x hx]; decide)
                    rw [e, if_pos (by omega), show ((k : Int)).toNat = k from rfl, HGD.out, hse] at HV
                    clear e
                    go_wp2_with (go_at_call 38; (with_reducible refine (HWI.out _).mono ?_); rintro e w7 ⟨rfl, rfl⟩)
                    rw [HV.out]
                    exact ck_end rfl rfl (ck_set HY3.out _ _) (ck_below HBW.out _ _)
                  | true =>
                    have HSE := hid (show selE sl = 0 by unfold selE; rw [if_neg (by rw [hnn]; decide), if_neg (by rw [hin]; decide)])
                    rw [hin] at HWI
                    clear hin hnn
                    go_wp2_with (go_at_call 38; (with_reducible refine (HWI.out _).mono ?_); rintro e w7 ⟨rfl, rfl⟩)
                    go_roundg (p.sels.length - (k + 1))
                    case measure => omega
                    case rel =>
                      refine ⟨k + 1, by omega, rfl, by go_num, hid fun x hx => ?_, hid (HB2.out.step HB4.out)⟩
                      rw [HTK.out] at hx
                      rcases List.mem_append.1 hx with h | h
                      · exact HQ.out x h
                      · rw [List.mem_singleton.1 h]; exact HSE.out
            · obtain rfl : k = p.sels.length := by omega
              rw [List.take_length] at HQ
              have hsi : ¬ 0 ≤ selI p := by
                have : selI p = -1 := idxP_none (fun x hx => by show (selE x != 0) = false; rw [HQ.out x hx]; decide)
                omega
              rw [if_neg hsi] at HV
              clear hsi
              have HB2 := hid (HB.out.step HBR.out)
              have HZ1 := hid (keepBox HBR.out HX1.out)
              have HZ3 := hid (keepBox HBR.out HX3.out)
              have HZ4 := hid (keepBox HBR.out HX4.out)
              clear HX1 HX3 HX4 HBR HB j0 j1 j2 j3 j4 y40 y41 y30 y31 f30 f31
              obtain ⟨j0, j1, j2, j3, j4⟩ := box5' HZ1.out
              go_upto_region 15 with fail
              generalize wr = w5 at *
              go_loopg [72] p.shapes.length (fun gh s72 wr => ∃ k : Nat, k ≤ p.shapes.length ∧ gh = p.shapes.length - k ∧ s72 = .int .i64 k ∧ Hid (∀ j, j < k → shpE p j = 0) ∧ Hid (Below w5.heap.size w5 wr))
              case atStart => exact ⟨0, Nat.zero_le _, rfl, rfl, hid (fun j h => absurd h (Nat.not_lt_zero _)), hid (Below.refl _ _)⟩
              case round =>
                obtain ⟨k, hk, rfl, rfl, HQ2, HBR⟩ := hrel
                by_cases hlk : k < p.shapes.length
                · -- [[
                  have nk : (k : Int) < (p.shapes.length : Int) := by omega
                  have HBW := hid (HB2.out.step HBR.out)
                  have HSH := hid (shaped_any p ⟨sa, sc, la, lc, ua, uc⟩ k wr (HO.out.below HBW.out) hlk)
                  have HE0 := hid (show ∀ j, j < k → (shpE p j != 0) = false from fun j hj => by rw [HQ2.out j hj]; decide)
                  clear j0 j1 j2 j3 j4
                  obtain ⟨j0, j1, j2, j3, j4⟩ := box5' (keepBox HBR.out HZ1.out)
                  by_cases he : shpE p k = 0
                  · have HEK := hid he
                    rw [he] at HSH
                    clear he
                    go_wp2_with (go_at_call 39; (with_reducible refine HSH.out.mono ?_); rintro e w6 ⟨rfl, hb⟩; have HB6 := hid hb; clear hb)
                    go_roundg (p.shapes.length - (k + 1))
                    case measure => omega
                    case rel =>
                      refine ⟨k + 1, by omega, rfl, by go_num, hid fun j hj => ?_, hid (HBR.out.step HB6.out)⟩
                      rcases Nat.lt_succ_iff_lt_or_eq.1 hj with h | rfl
                      · exact HQ2.out j h
                      · exact HEK.out
                  · have e : shpI p = (k : Int) := idxR_yes hlk (by simpa using he) HE0.out
                    rw [e, if_pos (by omega), show ((k : Int)).toNat = k from rfl] at HV
                    have en : (shpE p k != 0) = true := by simpa using he
                    have ee : (shpE p k == 0) = false := by simpa using he
                    clear e
                    generalize shpE p k = er at *
                    clear he
                    go_wp2_with (go_at_call 39; (with_reducible refine HSH.out.mono ?_); rintro e w6 ⟨rfl, hb⟩; have HB6 := hid hb; have HY3 := hid (keepBox hb (keepBox HBR.out HZ3.out)); have y30 := (cell_of_row _ _ 0 _ _ _ HY3.out).trans rfl; have y31 := (cell_of_row _ _ 1 _ _ _ HY3.out).trans rfl; have f30 := boxF 0 HY3.out; have f31 := boxF 1 HY3.out; clear hb)
                    rw [HV.out]
                    exact ck_end rfl rfl (ck_set HY3.out _ _) (ck_below (HBW.out.step HB6.out) _ _)
                · obtain rfl : k = p.shapes.length := by omega
                  have hsi : ¬ 0 ≤ shpI p := by
                    have : shpI p = -1 := idxR_no (fun j hj => by show (shpE p j != 0) = false; rw [HQ2.out j hj]; decide)
                    omega
                  rw [if_neg hsi] at HV
                  clear hsi
                  have HB3 := hid (HB2.out.step HBR.out)
                  have HA1 := hid (keepBox HBR.out HZ1.out)
                  have HA3 := hid (keepBox HBR.out HZ3.out)
                  have HA4 := hid (keepBox HBR.out HZ4.out)
                  clear HZ1 HZ3 HZ4 HBR HB2 j0 j1 j2 j3 j4
                  obtain ⟨j0, j1, j2, j3, j4⟩ := box5' HA1.out
                  go_upto_region 22 with fail
                  have HAR := hid (fun x (hx : x ∈ p.sels) => selE_arg (HQ.out x hx))
                  generalize wr = w8 at *
                  go_loopg [87] p.units.length (fun gh s87 wr => ∃ k : Nat, k ≤ p.units.length ∧ gh = p.units.length - k ∧ s87 = .int .i64 k ∧ Hid (∀ x, x ∈ p.units.take k → (chkU p x).1 = 0) ∧ Hid (Below w8.heap.size w8 wr))
                  case atStart => exact ⟨0, Nat.zero_le _, rfl, rfl, hid (by simp), hid (Below.refl _ _)⟩
                  case round =>
                    obtain ⟨k, hk, rfl, rfl, HQ3, HBR⟩ := hrel
                    by_cases hlk : k < p.units.length
                    · -- [[
                      have nk : (k : Int) < (p.units.length : Int) := by omega
                      have HBW := hid (HB3.out.step HBR.out)
                      obtain ⟨ub, uo, ca, cc, ga, gc, hua, _, u0, u1, u2, u3, u4, u5, u6, hum⟩ := (HO.out.pm.ru.below HBW.out) k hlk
                      obtain ⟨un1, un2⟩ := HO.out.un _ (List.getElem_mem hlk)
                      have HTK := hid (take_last hlk)
                      have HIS := hid (idxP_some (p := fun u => (chkU p u).1 != 0) (l := p.units) (i := k) hlk)
                      have HGD := hid (getD_in (d := unt0) hlk)
                      have HUM := hid hum
                      clear hum
                      generalize p.units[k] = u at *
                      dsimp only at hua
                      subst hua
                      have HCU := hid (fun w1 (hb : Below wr.heap.size wr w1) => checkU_any p ⟨sa, sc, la, lc, some ⟨ub, uo, none⟩, uc⟩ u ca cc ga gc w1 ⟨HO.out.pm.rs.below (HBW.out.step hb), HUM.out.below hb, HO.out.h1, HO.out.h2, fun s hs => ⟨(HAR.out s hs).1, by have := (HAR.out s hs).2; omega⟩, un1, un2⟩)
                      clear j0 j1 j2 j3 j4
                      have j1x := (keepBox HBR.out HA1.out)
                      have HBO := hid (bnew wr (oU u ca cc ga gc))
                      have HXU := hid (heapn wr (oU u ca cc ga gc) _ rfl)
                      have HJ1 := hid (keepBox HBO.out j1x)
                      clear j1x
                      go_upto_region 24 with fail
                      generalize wr.alloc (oU u ca cc ga gc) = wg at *
                      obtain ⟨j0, j1, j2, j3, j4⟩ := box5' HJ1.out
                      obtain ⟨k0, k1, k2, k3, k4, k5, k6⟩ := box7 HXU.out
                      by_cases he : (chkU p u).1 = 0
                      · have HEK := hid he
                        have HC2 := hid (HCU.out _ HBO.out)
                        rw [he] at HC2
                        clear he
                        generalize (chkU p u).2 = c2 at *
                        go_wp2_with (go_at_call 40; (with_reducible refine HC2.out.mono ?_); rintro e w6 ⟨rfl, hb⟩; have HB6 := hid hb; clear hb)
                        go_roundg (p.units.length - (k + 1))
                        case measure => omega
                        case rel =>
                          refine ⟨k + 1, by omega, rfl, by go_num, hid fun x hx => ?_, hid (HBR.out.step (HBO.out.step HB6.out))⟩
                          rw [HTK.out] at hx
                          rcases List.mem_append.1 hx with h | h
                          · exact HQ3.out x h
                          · rw [List.mem_singleton.1 h]; exact HEK.out
                      · have e : untI p = (k : Int) := HIS.out (by show ((chkU p u).1 != 0) = true; simpa using he) (fun x hx => by show ((chkU p x).1 != 0) = false; rw [HQ3.out x hx]; decide)
                        rw [e, if_pos (by omega), show ((k : Int)).toNat = k from rfl, HGD.out] at HV
                        have HC2 := hid (HCU.out _ HBO.out)
                        have en : ((chkU p u).1 != 0) = true := by simpa using he
                        have ee : ((chkU p u).1 == 0) = false := by simpa using he
                        clear e HIS HQ3 HTK HCU
                        generalize chkU p u = er at *
                        obtain ⟨e1, e2⟩ := er
                        simp only at he en ee HC2 HV
                        clear he
                        go_wp2_with (go_at_call 40; (with_reducible refine HC2.out.mono ?_); rintro e w6 ⟨rfl, hb⟩; have HB6 := hid (HBO.out.step hb); have HY3 := hid (keepBox hb (keepBox HBO.out (keepBox HBR.out HA3.out))); have y30 := (cell_of_row _ _ 0 _ _ _ HY3.out).trans rfl; have y31 := (cell_of_row _ _ 1 _ _ _ HY3.out).trans rfl; have f30 := boxF 0 HY3.out; have f31 := boxF 1 HY3.out; clear hb)
                        rw [HV.out]
                        exact ck_end rfl rfl (ck_set HY3.out _ _) (ck_below (HBW.out.step HB6.out) _ _)
                    · obtain rfl : k = p.units.length := by omega
                      rw [List.take_length] at HQ3
                      have hsi : ¬ 0 ≤ untI p := by
                        have : untI p = -1 := idxP_none (fun x hx => by show ((chkU p x).1 != 0) = false; rw [HQ3.out x hx]; decide)
                        omega
                      rw [if_neg hsi] at HV
                      clear hsi
                      have HB4 := hid (HB3.out.step HBR.out)
                      have HC1 := hid (keepBox HBR.out HA1.out)
                      have HC3 := hid (keepBox HBR.out HA3.out)
                      have HC4 := hid (keepBox HBR.out HA4.out)
                      clear HA1 HA3 HA4 HBR HB3 j0 j1 j2 j3 j4
                      obtain ⟨j0, j1, j2, j3, j4⟩ := box5' HC1.out
                      go_upto_region 28 with fail
                      have hEQ := HQ2.out
                      generalize wr = w9 at *
                      go_cut [146] (fun s146 wx => s146 = .bool (!topB p) ∧ Hid (Below w9.heap.size w9 wx))
                      case first =>
                        have HT : Hid (topB p = (inN p.main 0 ((p.shapes.length : Int) - 1) && inN p.mk' 0 ((p.sels.length : Int) - 1) && bareB (p.sels.getD p.mk'.toNat sel0) && decide (0 ≤ (p.shapes.getD p.main.toNat shp0).table.getD p.mk'.toNat 0))) := hid rfl
                        have HE2 := hid hEQ
                        clear hEQ
                        generalize topB p = tv at *
                        have HW1 := hid (fun w => (within_any p.main 0 ((p.shapes.length : Int) - 1) w).mono (fun e w' h => (⟨h.1, h.2 ▸ Below.refl _ _⟩ : e = .returned (.bool (inN p.main 0 ((p.shapes.length : Int) - 1))) ∧ Below w.heap.size w w')))
                        have HW2 := hid (fun w => (within_any p.mk' 0 ((p.sels.length : Int) - 1) w).mono (fun e w' h => (⟨h.1, h.2 ▸ Below.refl _ _⟩ : e = .returned (.bool (inN p.mk' 0 ((p.sels.length : Int) - 1))) ∧ Below w.heap.size w w')))
                        have q0 := fun d os => cell_regrown j0 d os
                        have q1 := fun d os => cell_regrown j1 d os
                        have q3 := fun d os => cell_regrown j3 d os
                        have q4 := fun d os => cell_regrown j4 d os
                        cases b1 : inN p.main 0 ((p.shapes.length : Int) - 1) with
                        | false =>
                          rw [b1] at HT HW1
                          refine wp_region_quiet_below (by kernel_rfl) (by kernel_rfl) ?_
                          repeat (go_big_quiet_step ((go_at_call 38; with_reducible exact Calls.regrown_of (HW1.out _))))
                          refine wpQuiet_nil ?_
                          rintro _ ⟨p9, rfl⟩
                          have hb9 := below_regrown w9 p9.d p9.os
                          generalize Go.Sort.grow (redrawn w9 p9.d) p9.os = wq at *
                          go_wp2
                          go_meet
                          exact ⟨by rw [HT.out]; rfl, hid hb9⟩
                        | true =>
                          obtain ⟨m0, m1⟩ := (inN_iff _ _ _).1 b1
                          rw [b1] at HT HW1
                          obtain ⟨m, hm⟩ : ∃ m : Nat, p.main = (m : Int) := ⟨p.main.toNat, by omega⟩
                          have hml : m < p.shapes.length := by omega
                          have HMM := hid hm
                          clear hm m0 m1 b1
                          cases b2 : inN p.mk' 0 ((p.sels.length : Int) - 1) with
                          | false =>
                            rw [b2] at HT HW2
                            refine wp_region_quiet_below (by kernel_rfl) (by kernel_rfl) ?_
                            repeat (go_big_quiet_step ((first
                              | (go_at_call 38; with_reducible exact Calls.regrown_of (HW1.out _))
                              | (go_at_call 38; with_reducible exact Calls.regrown_of (HW2.out _)))))
                            refine wpQuiet_nil ?_
                            rintro _ ⟨p9, rfl⟩
                            have hb9 := below_regrown w9 p9.d p9.os
                            generalize Go.Sort.grow (redrawn w9 p9.d) p9.os = wq at *
                            go_wp2
                            go_meet
                            exact ⟨by rw [HT.out]; rfl, hid hb9⟩
                          | true =>
                            obtain ⟨n0, n1⟩ := (inN_iff _ _ _).1 b2
                            rw [b2] at HT HW2
                            obtain ⟨n, hn⟩ : ∃ n : Nat, p.mk' = (n : Int) := ⟨p.mk'.toNat, by omega⟩
                            have hnl : n < p.sels.length := by omega
                            have HNN := hid hn
                            clear hn n0 n1 b2
                            have nml : (m : Int) < (p.shapes.length : Int) := by omega
                            have nnl : (n : Int) < (p.sels.length : Int) := by omega
                            have hlen := shp_len hml (HE2.out m hml)
                            have HMT := HMM.out
                            have HNT := HNN.out
                            rw [HMT] at j3 HW1 HT
                            rw [HNT] at j4 HW2 HT
                            clear HMT HNT q3 q4
                            have q3 := fun d os => cell_regrown j3 d os
                            have q4 := fun d os => cell_regrown j4 d os
                            rw [show ((n : Int)).toNat = n from rfl, show ((m : Int)).toNat = m from rfl, getD_in hnl, getD_in hml] at HT
                            obtain ⟨lb, lo, hla, _, s0, s1, s2, s3⟩ := (HO.out.pm.rs.below HB4.out) n hnl
                            obtain ⟨hb', ho, fa, fc, ta, tc, hsa, _, _, _, g2, _, _, hrt, _⟩ := (HO.out.pm.rh.below HB4.out) m hml
                            obtain ⟨tb, to', hta, _, t0⟩ := hrt n (by rw [hlen]; exact hnl)
                            rw [getD_in (by rw [hlen]; exact hnl)] at HT
                            have ntl : (n : Int) < (p.shapes[m].table.length : Int) := by omega
                            have HW3 := hid (fun w => (show Calls _ _ _ w (fun e w' => e = .returned (.bool (bareB p.sels[n])) ∧ Below w.heap.size w w') from bare_any p.sels[n] w))
                            generalize p.shapes[m].table[n]'_ = te at *
                            clear hrt hlen
                            generalize p.sels[n] = sl at *
                            generalize p.shapes[m] = sh at *
                            dsimp only at hla hsa
                            subst hla hsa hta
                            have r0 := fun d os => cell_regrown s0 d os
                            have r1 := fun d os => cell_regrown s1 d os
                            have r2 := fun d os => cell_regrown s2 d os
                            have r3 := fun d os => cell_regrown s3 d os
                            have r4 := fun d os => cell_regrown g2 d os
                            have r5 := fun d os => cell_regrown t0 d os
                            cases b3 : bareB sl with
                            | false =>
                              rw [b3] at HT HW3
                              refine wp_region_quiet_below (by kernel_rfl) (by kernel_rfl) ?_
                              repeat (go_big_quiet_step ((first
                                | (go_at_call 38; with_reducible exact Calls.regrown_of (HW1.out _))
                                | (go_at_call 38; with_reducible exact Calls.regrown_of (HW2.out _))
                                | (go_at_call 41; with_reducible exact Calls.regrown_of (HW3.out _)))))
                              refine wpQuiet_nil ?_
                              rintro _ ⟨p9, rfl⟩
                              have hb9 := below_regrown w9 p9.d p9.os
                              generalize Go.Sort.grow (redrawn w9 p9.d) p9.os = wq at *
                              go_wp2
                              go_meet
                              exact ⟨by rw [HT.out]; rfl, hid hb9⟩
                            | true =>
                              rw [b3] at HT HW3
                              cases b4 : decide (te < 0) with
                              | false =>
                                have e4 : decide (0 ≤ te) = true := by simp at b4 ⊢; exact b4
                                rw [e4] at HT
                                refine wp_region_quiet_below (by kernel_rfl) (by kernel_rfl) ?_
                                repeat (go_big_quiet_step ((first
                                  | (go_at_call 38; with_reducible exact Calls.regrown_of (HW1.out _))
                                  | (go_at_call 38; with_reducible exact Calls.regrown_of (HW2.out _))
                                  | (go_at_call 41; with_reducible exact Calls.regrown_of (HW3.out _)))))
                                refine wpQuiet_nil ?_
                                rintro _ ⟨p9, rfl⟩
                                have hb9 := below_regrown w9 p9.d p9.os
                                generalize Go.Sort.grow (redrawn w9 p9.d) p9.os = wq at *
                                go_wp2
                                go_meet
                                exact ⟨by rw [HT.out]; rfl, hid hb9⟩
                              | true =>
                                have e4 : decide (0 ≤ te) = false := by simp at b4 ⊢; exact b4
                                rw [e4] at HT
                                refine wp_region_quiet_below (by kernel_rfl) (by kernel_rfl) ?_
                                repeat (go_big_quiet_step ((first
                                  | (go_at_call 38; with_reducible exact Calls.regrown_of (HW1.out _))
                                  | (go_at_call 38; with_reducible exact Calls.regrown_of (HW2.out _))
                                  | (go_at_call 41; with_reducible exact Calls.regrown_of (HW3.out _)))))
                                refine wpQuiet_nil ?_
                                rintro _ ⟨p9, rfl⟩
                                have hb9 := below_regrown w9 p9.d p9.os
                                generalize Go.Sort.grow (redrawn w9 p9.d) p9.os = wq at *
                                go_wp2
                                go_meet
                                exact ⟨by rw [HT.out]; rfl, hid hb9⟩
                      case rest =>
                        obtain ⟨rfl, HB9⟩ := hcut
                        have HD3 := hid (keepBox HB9.out HC3.out)
                        have HD4 := hid (keepBox HB9.out HC4.out)
                        have y30 := (cell_of_row _ _ 0 _ _ _ HD3.out).trans rfl
                        have y31 := (cell_of_row _ _ 1 _ _ _ HD3.out).trans rfl
                        have f30 := boxF 0 HD3.out
                        have f31 := boxF 1 HD3.out
                        have y40 := (cell_of_row _ _ 0 _ _ _ HD4.out).trans rfl
                        have y41 := (cell_of_row _ _ 1 _ _ _ HD4.out).trans rfl
                        cases htp : topB p with
                        | false =>
                          rw [if_pos htp] at HV
                          clear htp
                          go_wp2
                          go_region
                          go_wp2
                          rw [HV.out]
                          exact ck_end rfl rfl (ck_set HD3.out _ _) (ck_below (HB4.out.step HB9.out) _ _).drew
                        | true =>
                          rw [if_neg (by rw [htp]; decide)] at HV
                          clear htp
                          go_wp2
                          rw [HV.out]
                          exact ck_end rfl rfl (ck_set HD3.out _ _) (ck_below (HB4.out.step HB9.out) _ _)
end Go.Proofs.Ytecpkjhfbmchgaa
