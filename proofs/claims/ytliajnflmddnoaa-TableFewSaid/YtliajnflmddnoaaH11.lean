/- The walk of TableFew. -/
import Derived.Test.YtliajnflmddnoaaH1
import Derived.Test.YtliajnflmddnoaaP10
import Derived.Lib.QuietBelow
import Derived.Maps.OwnSet
namespace Go.Proofs.Ytliajnflmddnoaa
open Go.RowKit Go.Maps Go.WideMaps

theorem law3 : Keyed Try.prog 3 := int_keyed Try.underlying3
theorem colour_range {m : List (List Int)} {l : List Int} (h : chkC m l = 0) {k : Nat} (hk : k < l.length) : 0 ≤ l.getD k (-1) ∧ l.getD k (-1) ≤ 400 := by
  unfold chkC at h
  split at h
  · split at h
    · split at h
      · rename_i h1
        have h2 := List.all_eq_true.1 h1 k (List.mem_range.2 hk)
        unfold colOkAt at h2
        simp only [Bool.and_eq_true, decide_eq_true_eq] at h2
        exact h2.1
      · cases h
    · cases h
  · rename_i h1
    exact absurd h h1
theorem key3 {x : Int} (h : 0 ≤ x ∧ x ≤ 400) : keyOf Try.prog 3 (.int .i64 x) = some (Lit.int .i64 x) :=
  keyOf_int_mk Try.underlying3 (by simp only [Lit.wf, Bool.and_eq_true, decide_eq_true_eq]; exact ⟨Int.le_trans (show IntKind.i64.min ≤ (0 : Int) by decide) h.1, Int.le_trans h.2 (show (400 : Int) ≤ IntKind.i64.max by decide)⟩)
theorem _root_.Go.World.ownsMap.below' {w w' : World} {B n : Nat} {D : DataW Unit} (h : w.ownsMap Try.prog 3 (plainElem Try.prog 4) B n D) (hb : Below w.heap.size w w') : w'.ownsMap Try.prog 3 (plainElem Try.prog 4) B n D := by
  obtain ⟨es, clock, h1, h2⟩ := h
  exact ⟨es, clock, keepBox hb h1, h2⟩
theorem map_at {l : List Nat} {p : Nat} (hp : p < l.length) : (l.map Int.ofNat).getD p (-1) = (l.getD p 0 : Nat) := by
  rw [getD_in (by rw [List.length_map]; exact hp), List.getElem_map, getD_in hp]
  rfl
theorem othB_yes {m : List (List Int)} {b a : Nat} (h : clB m a b = true) (hab : a ≠ b) : othU m b (a + 1) = othU m b a + 1 := by
  show (if othB m b a = true then _ else _) = _
  rw [if_pos]
  unfold othB
  rw [h]
  simpa using hab
theorem othB_no {m : List (List Int)} {b a : Nat} (h : clB m a b = false ∨ a = b) : othU m b (a + 1) = othU m b a := by
  show (if othB m b a = true then _ else _) = _
  rw [if_neg]
  unfold othB
  rcases h with h | h
  · rw [h]; simp
  · rw [h]; simp

set_option maxRecDepth 100000 in
set_option maxHeartbeats 8000000 in
theorem few_ok (m : List (List Int)) (a : Option Addr) (cap : Nat) (l : List Int) (al : Option Addr) (cl' : Nat) (w : World) (hl : RdM w a m) (hr : RdI w al l) (hs : smallB m = true) (hE : chkM m = 0) (h420 : l.length ≤ 420) :
    Calls Try.prog 12 #[.slice a m.length cap, .slice al l.length cl'] w (RetB (.bool true) w) := by
  have HL := hid hl; clear hl
  have HR := hid hr; clear hr
  have hm := chkM_ok hE
  have HM := hid hm
  obtain ⟨h12, h40⟩ := small_in hs hm
  have hrl : ∀ r, r ∈ m → r.length ≤ 1000000 := fun r hr => by
    obtain ⟨i, hi, rfl⟩ := List.getElem_of_mem hr
    rw [hm.len i hi]
    omega
  have HSM := hid (fun (w : World) (h : RdM w a m) => (by
    have := small_any m a cap w h (by omega) (fun r hr => by have := hrl r hr; omega)
    rw [hs] at this; exact this : Calls Try.prog 13 #[.slice a m.length cap] w (RetS (.bool true) w)))
  have HCK := hid (fun (w : World) (h : RdM w a m) => (by have := check_any m a cap w h (by omega) hrl; rw [hE] at this; exact this : Calls Try.prog 28 #[.slice a m.length cap] w (RetS (.int .i64 0) w)))
  have H41 := hid (fun (w : World) (h : RdM w a m) => (by have := Colour_any m a cap w h (by omega) hrl; rw [hE, show colN m = (manyC (colL m (colsN m)) : Nat) from if_pos hE] at this; exact this : Calls Try.prog 41 #[.slice a m.length cap] w (OwnRet2 (colV m) (manyC (colL m (colsN m)) : Nat) 0 w)))
  have hq : cliqueV m = (cliqueL m).map Int.ofNat := if_pos hE
  have H43 := hid (fun (w : World) (h : RdM w a m) => (by have := Clique_any m a cap w h (fun _ => by omega) (by omega) hrl; rw [hE] at this; exact this : Calls Try.prog 43 #[.slice a m.length cap] w (IntsRet (cliqueV m) 0 w)))
  have H47 := hid (fun (w : World) (x : Option Addr) (c : Nat) (h : RdM w a m) (h' : RdI w x (colV m)) => (by
    have hv : (colV m).length = colsN m := by rw [show colV m = asI (colL m (colsN m)) from if_pos hE, asI_length, colL_length]
    have := CheckColour_any m a cap (colV m) x c w h (by omega) hrl h' (by rw [hv]; omega); rw [colV_ok hm] at this; exact this : Calls Try.prog 47 #[.slice a m.length cap, .slice x (colV m).length c] w (RetB (.int .i64 0) w)))
  have H47' := hid (fun (w : World) (h : RdM w a m) (h' : RdI w al l) => CheckColour_any m a cap l al cl' w h (by omega) hrl h' (by omega))
  have H39 := hid (fun (x y : Nat) (hx : x < colsN m) (hy : y < colsN m) (w : World) (h : RdM w a m) => (by
    have := Clash_any m a cap x y w h (by omega) hrl
    rw [(clashIs_in hm hx hy).1, (clashIs_in hm hx hy).2] at this
    exact this : Calls Try.prog 39 #[.slice a m.length cap, .int .i64 x, .int .i64 y] w (Ret3 (.int .i64 (clashN m x y)) (.bool (clB m x y)) (.int .i64 0) w)))
  have hql : (cliqueV m).length = (cliqueL m).length := by rw [hq, List.length_map]
  have HQL := hid hql
  have HQ := hid hq
  have hmany : ((cliqueL m).length : Int) ≤ (manyC (colL m (colsN m)) : Nat) := by have := clique_le hm; omega
  have hmany2 : ((manyC (colL m (colsN m)) : Nat) : Int) ≤ (mostU m (colsN m) : Nat) + 1 := by have := many_most m; omega
  have hmo := mostU_le m (colsN m)
  have HMS := hid (fun b => mostU_le m b)
  have HOT := hid (fun b a => othU_le m b a)
  obtain ⟨b0, o0, ha, hlt0, ai0, ci0, hc0⟩ := HL.out.head hm.some'
  subst ha
  have HC0 := hid hc0
  have n0 : (0 : Int) < (m.length : Int) := by have := hm.some'; omega
  have n420 : ¬ (420 : Int) < (l.length : Int) := by omega
  have d420 : decide ((420 : Int) < (l.length : Int)) = false := decide_eq_false n420
  have hmm := @run_makeMap Try.prog
  generalize hcn : colsN m = cn at *
  have HCN := hid hcn
  clear hcn
  generalize manyC (colL m cn) = many at *
  generalize hqn : (cliqueL m).length = qn at *
  have HQN := hid hqn
  have HMM := hid hmany2
  have hqb : qn ≤ 100 := by omega
  clear hs hE hm hrl hc0 hq hqn hql hmany2
  have nmq : ¬ (many : Int) < (qn : Int) := by omega
  have dmq : decide (many < qn) = false := decide_eq_false (by omega)
  go_enter Try.func12, Try.ntmps12
  go_upto_region 7 with (first
    | (go_at_call 13; refine (HSM.out _ HL.out).mono ?_; rintro e w1 ⟨rfl, rfl⟩)
    | (go_at_call 28; refine (HCK.out _ HL.out).mono ?_; rintro e w1 ⟨rfl, rfl⟩)
    | (go_at_call 41; ((with_reducible refine (H41.out _ HL.out).mono ?_); rintro e w1 ⟨hb, v, rfl, ho⟩); obtain ⟨oa, oc, rfl, hro⟩ := ho.rd; have HB := hid hb; have RO := hid hro; clear hb hro ho)
    | (go_at_call 43; ((with_reducible refine (H43.out _ (HL.out.below HB.out)).mono ?_); rintro e w2 ⟨hb, qa, qc, rfl, hrq⟩); rw [HQL.out]; replace HB := hid (HB.out.step hb); replace RO := hid (RO.out.below hb); have RQ := hid hrq; clear hb hrq)
    | (go_at_call 47; ((with_reducible refine (H47.out _ oa oc (HL.out.below HB.out) RO.out).mono ?_); rintro e w3 ⟨rfl, hb⟩); replace HB := hid (HB.out.step hb); replace RQ := hid (RQ.out.below hb); clear hb RO))
  go_wp2_with fail
  clear nmq dmq hmany
  go_loopg [10, 11] cn (fun gh s10 s11 wr => ∃ b : Nat, b ≤ cn ∧ gh = cn - b ∧ s11 = .int .i64 b ∧ s10 = .int .i64 (mostU m b : Nat) ∧ Hid (Below w3.heap.size w3 wr))
  case atStart => exact ⟨0, Nat.zero_le _, rfl, rfl, rfl, hid (Below.refl _ _)⟩
  case round =>
    obtain ⟨b, hb, rfl, rfl, rfl, HK⟩ := hrel
    have hc0 := cell_later (HB.out.step HK.out) HC0.out
    have hmb := HMS.out b
    have HMB := hid hmb
    by_cases hlt : b < cn
    · have nb : (b : Int) < (cn : Int) := by omega
      obtain ⟨ms, hms⟩ : ∃ x, x = mostU m b := ⟨_, rfl⟩
      rw [← hms] at hmb
      rw [← hms]
      have HMSB := hid hms
      clear hms
      go_wp2_with fail
      go_loopg [12, 13] cn (fun gh s12 s13 wr' => ∃ k : Nat, k ≤ cn ∧ gh = cn - k ∧ s13 = .int .i64 k ∧ s12 = .int .i64 (othU m b k : Nat) ∧ Hid (Below wr.heap.size wr wr'))
      case atStart => exact ⟨0, Nat.zero_le _, rfl, rfl, rfl, hid (Below.refl _ _)⟩
      case round =>
        obtain ⟨k, hk, rfl, rfl, rfl, HK2⟩ := hrel
        replace hc0 := cell_later HK2.out hc0
        have hob := HOT.out b k
        by_cases hlk : k < cn
        · have nk : (k : Int) < (cn : Int) := by omega
          have HCL := hid (H39.out k b hlk hlt)
          have HLW := hid (HL.out.below ((HB.out.step HK.out).step HK2.out))
          have HO1 := hid (fun (h : clB m k b = true) (h' : k ≠ b) => othB_yes h h')
          have HO2 := hid (fun (h : clB m k b = false ∨ k = b) => othB_no h)
          obtain ⟨os, hos⟩ : ∃ x, x = othU m b k := ⟨_, rfl⟩
          rw [← hos] at hob HO1 HO2
          rw [← hos]
          clear hos
          cases hcl : clB m k b with
          | true =>
            rw [hcl] at HCL
            by_cases hkb : k = b
            · have f1 : ((k : Int) != (b : Int)) = false := by rw [hkb]; simp
              have e := hid (HO2.out (.inr hkb))
              clear hkb hcl
              go_wp2_with (go_at_call 39; ((with_reducible refine (HCL.out _ HLW.out).mono ?_); rintro e w5 ⟨rfl, hb5⟩); replace HK2 := hid (HK2.out.step hb5); clear hb5)
              go_roundg (cn - (k + 1))
              case measure => omega
              case rel => exact ⟨k + 1, by omega, rfl, by go_num, by rw [e.out], HK2⟩
            · have f1 : ((k : Int) != (b : Int)) = true := by simp; omega
              have e := hid (HO1.out hcl hkb)
              clear hkb hcl
              go_wp2_with (go_at_call 39; ((with_reducible refine (HCL.out _ HLW.out).mono ?_); rintro e w5 ⟨rfl, hb5⟩); replace HK2 := hid (HK2.out.step hb5); clear hb5)
              go_roundg (cn - (k + 1))
              case measure => omega
              case rel => exact ⟨k + 1, by omega, rfl, by go_num, by rw [e.out]; go_num, HK2⟩
          | false =>
            rw [hcl] at HCL
            have e := hid (HO2.out (.inl hcl))
            clear hcl
            go_wp2_with (go_at_call 39; ((with_reducible refine (HCL.out _ HLW.out).mono ?_); rintro e w5 ⟨rfl, hb5⟩); replace HK2 := hid (HK2.out.step hb5); clear hb5)
            go_roundg (cn - (k + 1))
            case measure => omega
            case rel => exact ⟨k + 1, by omega, rfl, by go_num, by rw [e.out], HK2⟩
        · obtain rfl : k = cn := by omega
          go_wp2
          all_goals
            go_roundg (k - (b + 1))
            case measure => omega
            case rel =>
              refine ⟨b + 1, by omega, rfl, by go_num, ?_, hid (HK.out.step HK2.out)⟩
              rw [show mostU m (b + 1) = max ms (othU m b k) from by show max (mostU m b) (othU m b (colsN m)) = _; rw [HCN.out, ← HMSB.out]]
              first
                | rfl
                | go_num
    · obtain rfl : b = cn := by omega
      have hmm2 := HMM.out
      generalize mostU m b = ms at *
      have nmm : ¬ (ms : Int) + 1 < (many : Int) := by omega
      have dmm : decide (ms + 1 < many) = false := decide_eq_false (by omega)
      have HBW := hid (HB.out.step HK.out)
      clear hmm2
      go_upto_region 23 with fail
      clear nmm dmm
      have HMN := hid (keepBox (w := wr.alloc (.map #[] 0)) (Below.refl _ _) (heapn wr (.map #[] 0) _ rfl))
      go_upto_if 112 with (go_at_call 47; (with_reducible refine (H47'.out _ (HL.out.below (HBW.out.step (bnew _ _))) (HR.out.below (HBW.out.step (bnew _ _)))).mono ?_); rintro e w6 ⟨rfl, hb6⟩; have HB6 := hid hb6; clear hb6)
      obtain ⟨M, hM⟩ : ∃ M, M = wr.heap.size := ⟨_, rfl⟩
      rw [← hM]
      have HOW : Hid (w6.ownsMap Try.prog 3 (plainElem Try.prog 4) M 0 (Sn l 0)) := by
        rw [hM, Sn_zero]
        exact hid ((World.ownsMap_made wr _ _ _).below' HB6.out)
      have HBM := hid (Nat.le_of_eq hM.symm)
      have HBX := hid (HBW.out.step ((bnew wr (.map #[] 0)).step HB6.out))
      have HBR := hid ((bnew wr (.map #[] 0)).step HB6.out)
      clear hM
      obtain ⟨eb, heb⟩ : ∃ eb : Bool, eb = (chkC m l == 0) := ⟨_, rfl⟩
      rw [← heb]
      have HEB := hid heb
      clear heb
      go_cut [] (fun wx => Hid (Below wr.heap.size wr wx))
      case first =>
        cases eb with
        | true =>
          have hck : chkC m l = 0 := by simpa using HEB.out.symm
          have HRG := hid (fun k (hk : k < l.length) => colour_range hck hk)
          have HSG := hid (by have := sn_ge (used_ge HM.out hck).2; rwa [HQN.out] at this : qn ≤ size (Sn l l.length))
          clear hck
          go_upto_region 26 with fail
          go_loopg [18] l.length (fun gh s18 wx => ∃ k : Nat, k ≤ l.length ∧ gh = l.length - k ∧ s18 = .int .i64 k ∧ Hid (wx.ownsMap Try.prog 3 (plainElem Try.prog 4) M k (Sn l k) ∧ Below wr.heap.size wr wx))
          case atStart => exact ⟨0, Nat.zero_le _, rfl, rfl, hid ⟨HOW.out, HBR.out⟩⟩
          case round =>
            obtain ⟨k, hk, rfl, rfl, HK4⟩ := hrel
            by_cases hlk : k < l.length
            · have nk : (k : Int) < (l.length : Int) := by omega
              obtain ⟨bl, ol, hal, _, hcl⟩ := (HR.out.below (HBW.out.step HK4.out.2)).at hlk
              have HKEY := hid (key3 (HRG.out k hlk))
              have HSS := hid (Sn_succ hlk)
              generalize l.getD k (-1) = x at *
              subst hal
              go_wp2_with (first
                | (at_mapUpdate; refine wpList_mapUpdate_own _ rfl _ _ _ 92 rfl 3 4 law3 Try.underlying92 (plainElem (H := Unit) Try.prog 4) M k _ rfl HK4.out.1 (by unfold maxLen; omega) _ _ _ rfl rfl HKEY.out _ [] (plainElem_bool Try.underlying4 true) ?_; intro w7 hown1 hgrow1)
                | go_in)
              go_roundg (l.length - (k + 1))
              case measure => omega
              case rel => exact ⟨k + 1, by omega, rfl, by go_num, hid ⟨HSS.out.symm ▸ hown1, HK4.out.2.grown hgrow1 HK4.out.2.size (fun j hj => by cases hj; exact HBM.out)⟩⟩
            · obtain rfl : k = l.length := by omega
              have hsg := HSG.out
              have hown := HK4.out.1
              have HOWN := hid hown
              obtain ⟨sz, hsz⟩ : ∃ s, s = size (Sn l l.length) := ⟨_, rfl⟩
              have dsz : decide (sz < qn) = false := decide_eq_false (by omega)
              rw [hsz] at dsz
              clear hsg hown hsz
              go_wp2_with (first
                | (at_len; refine wpList_len_own _ rfl _ 92 rfl 3 4 Try.underlying92 (plainElem (H := Unit) Try.prog 4) M l.length (Sn l l.length) rfl HOWN.out ?_)
                | go_in)
              go_meet
              exact hid HK4.out.2
        | false =>
          go_wp2_with fail
          go_meet
          exact HBR
      case rest =>
        have HBC := hid (HBW.out.step hcut.out)
        have RQC := hid ((RQ.out.below HK.out).below hcut.out)
        clear hcut
        go_upto_region 32 with fail
        go_loopg [19] qn (fun gh s19 wx => ∃ p : Nat, p ≤ qn ∧ gh = qn - p ∧ s19 = .int .i64 p ∧ Hid (Below wc.heap.size wc wx))
        case atStart => exact ⟨0, Nat.zero_le _, rfl, rfl, hid (Below.refl _ _)⟩
        case round =>
          obtain ⟨p, hp, rfl, rfl, HK5⟩ := hrel
          by_cases hlp : p < qn
          · have np : (p : Int) < (qn : Int) := by omega
            go_upto_region 35 with fail
            go_loopg [20] p (fun gh s20 wy => ∃ q : Nat, q ≤ p ∧ gh = p - q ∧ s20 = .int .i64 q ∧ Hid (Below wr.heap.size wr wy))
            case atStart => exact ⟨0, Nat.zero_le _, rfl, rfl, hid (Below.refl _ _)⟩
            case round =>
              obtain ⟨q, hq, rfl, rfl, HK6⟩ := hrel
              by_cases hlq : q < p
              · have nq : (q : Int) < (p : Int) := by omega
                have nq2 : (q : Int) < (qn : Int) := by omega
                have hp1 : p < (cliqueL m).length := by rw [HQN.out]; exact hlp
                have hq1 : q < (cliqueL m).length := by rw [HQN.out]; omega
                have hcx : (cliqueL m).getD p 0 ∈ cliqueL m := by rw [getD_in hp1]; exact List.getElem_mem _
                have hcy : (cliqueL m).getD q 0 ∈ cliqueL m := by rw [getD_in hq1]; exact List.getElem_mem _
                have hx := (clique_in HM.out hcx).1
                have hy := (clique_in HM.out hcy).1
                have hxy := clique_clash HM.out hcx hcy
                have HWX := hid ((HBC.out.step HK5.out).step HK6.out)
                have hrq := RQC.out.below (HK5.out.step HK6.out)
                obtain ⟨bq, oq, hqa, _, hc1⟩ := hrq.at (i := p) (by rw [HQL.out]; exact hlp)
                obtain ⟨bq', oq', hqa', _, hc2⟩ := hrq.at (i := q) (by rw [HQL.out]; omega)
                rw [hqa] at hqa'
                cases hqa'
                rw [HQ.out, map_at hp1] at hc1
                rw [HQ.out, map_at hq1] at hc2
                rw [← HCN.out] at H39
                have HCL := hid (H39.out _ _ hx hy)
                rw [HCN.out] at H39
                generalize (cliqueL m).getD p 0 = x at *
                generalize (cliqueL m).getD q 0 = y at *
                rw [hxy] at HCL
                have K1 := hid hc1
                have K2 := hid hc2
                subst hqa
                clear hp1 hq1 hcx hcy hx hy hxy hrq hc1 hc2
                go_upto_region 37 with fail
                have q1 : ∀ d os, (Go.Sort.grow (redrawn wr d) os).cell? ⟨bq, oq + p, none⟩ = some (.int .i64 x) := fun d os => cell_regrown K1.out d os
                have q2 : ∀ d os, (Go.Sort.grow (redrawn wr d) os).cell? ⟨bq, oq + q, none⟩ = some (.int .i64 y) := fun d os => cell_regrown K2.out d os
                refine wp_region_quiet_below (by kernel_rfl) (by kernel_rfl) ?_
                repeat (go_big_quiet_step ((go_at_call 39; exact Calls.regrown_of (HCL.out _ ((HL.out.below HWX.out).below (below_regrown _ _ _))))))
                refine wpQuiet_nil ?_
                rintro _ ⟨p9, rfl⟩
                have HB9 := hid (below_regrown wr p9.d p9.os)
                generalize Go.Sort.grow (redrawn wr p9.d) p9.os = wq at *
                clear q1 q2
                go_wp2_with fail
                go_roundg (p - (q + 1))
                case measure => omega
                case rel => exact ⟨q + 1, by omega, rfl, by go_num, hid (HK6.out.step HB9.out)⟩
              · obtain rfl : q = p := by omega
                go_wp2_with fail
                go_roundg (qn - (q + 1))
                case measure => omega
                case rel => exact ⟨q + 1, by omega, rfl, by go_num, hid (HK5.out.step HK6.out)⟩
          · obtain rfl : p = qn := by omega
            go_wp2_with (go_at_call 14; (with_reducible refine (sanity_any _).mono ?_); rintro e w8 ⟨rfl, hb8⟩; have HB8 := hid hb8; clear hb8)
            go_ret
            exact ⟨rfl, (HBC.out.step HK5.out).step HB8.out⟩
set_option maxRecDepth 100000 in
set_option maxHeartbeats 2000000 in
theorem few_any (m : List (List Int)) (a : Option Addr) (cap : Nat) (l : List Int) (al : Option Addr) (cl' : Nat) (w : World) (hl : RdM w a m) (hlen : m.length ≤ 9223372036854775807) (hrl : ∀ r, r ∈ m → r.length ≤ 9223372036854775807) (hr : RdI w al l) (hll : l.length ≤ 9223372036854775807) :
    Calls Try.prog 12 #[.slice a m.length cap, .slice al l.length cl'] w (RetB (.bool true) w) := by
  have HSM := hid (small_any m a cap w hl hlen hrl)
  cases hs : smallB m with
  | false =>
    rw [hs] at HSM
    clear hl hrl hs hr
    go_enter Try.func12, Try.ntmps12
    go_wp2_with (first
      | (go_at_call 13; refine HSM.out.mono ?_; rintro e w1 ⟨rfl, rfl⟩)
      | (go_at_call 14; refine (sanity_any _).mono ?_; rintro e w1 ⟨rfl, hb⟩; have HB := hid hb; clear hb))
    go_ret
    exact ⟨rfl, HB.out⟩
  | true =>
    rw [hs] at HSM
    obtain ⟨q1, q2⟩ := small_len hs
    have HCK := hid (check_any m a cap w hl (by omega) (fun r hr => by have := q2 r hr; omega))
    by_cases hE : chkM m = 0
    · by_cases h420 : l.length ≤ 420
      · exact few_ok m a cap l al cl' w hl hr hs hE h420
      · have n420 : (420 : Int) < (l.length : Int) := by omega
        have d420 : decide ((420 : Int) < (l.length : Int)) = true := decide_eq_true n420
        rw [hE] at HCK
        clear hl hrl hs hr hE q2 h420
        go_enter Try.func12, Try.ntmps12
        go_wp2_with (first
          | (go_at_call 13; refine HSM.out.mono ?_; rintro e w1 ⟨rfl, rfl⟩)
          | (go_at_call 28; refine HCK.out.mono ?_; rintro e w1 ⟨rfl, rfl⟩)
          | (go_at_call 14; refine (sanity_any _).mono ?_; rintro e w1 ⟨rfl, hb⟩; have HB := hid hb; clear hb))
        go_ret
        exact ⟨rfl, HB.out⟩
    · have hne : (chkM m == 0) = false := by rw [beq_eq_false_iff_ne]; exact hE
      have hne2 : (chkM m != 0) = true := by rw [bne, hne]; rfl
      clear hl hrl hs hE q2 hr
      go_enter Try.func12, Try.ntmps12
      go_wp2_with (first
        | (go_at_call 13; refine HSM.out.mono ?_; rintro e w1 ⟨rfl, rfl⟩)
        | (go_at_call 28; refine HCK.out.mono ?_; rintro e w1 ⟨rfl, rfl⟩)
        | (go_at_call 14; refine (sanity_any _).mono ?_; rintro e w1 ⟨rfl, hb⟩; have HB := hid hb; clear hb))
      go_ret
      exact ⟨rfl, HB.out⟩
end Go.Proofs.Ytliajnflmddnoaa
