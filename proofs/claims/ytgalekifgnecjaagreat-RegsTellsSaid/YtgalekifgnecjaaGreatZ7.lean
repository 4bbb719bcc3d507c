/- The reference of layer 8: Plain, GuardOf. -/
import Derived.Test.YtgalekifgnecjaaGreatZ5
import Derived.Test.YtgalekifgnecjaaGreatX1
namespace Go.Proofs.YtgalekifgnecjaaGreat
open Go.RowKit Go.Shelf
attribute [local go_sem] Oper.semAt_some
attribute [local irreducible] wpStill
theorem plainIns_one (n : Nat) (i : InsN) : plainIns n i = (opOk i.op && (match placeO i with | none => true | some x => inN x 0 ((n : Int) - 1))) := by
  unfold plainIns
  cases h : opOk i.op with
  | false => rfl
  | true =>
    rw [(form_regs h).2.2]
    cases placeO i with
    | none => rfl
    | some x => simp
theorem grd_bad {u : UntN} {j : Nat} (h : j < u.guards.length) (hb : plainGrd u.code.length u.guards[j] = false) : plainB u = false := by
  rw [plainB_eq, List.all_eq_false (l := u.guards).2 ⟨_, List.getElem_mem h, by simp [hb]⟩, Bool.and_false]
set_option maxRecDepth 100000 in
set_option maxHeartbeats 4000000 in
theorem plain61_no (u : UntN) (ca : Option Addr) (cc : Nat) (ga : Option Addr) (gc : Nat) (w : World) (hlc : u.code.length ≤ 1000000) (hlg : u.guards.length ≤ 1000000) (hh : plainHd u = false) :
    Calls Tryz.prog 61 #[vU u ca cc ga gc] w (RetB (.bool (plainB u)) w) := by
  have HP : Hid (plainB u = false) := hid (by rw [plainB_eq, hh]; rfl)
  have H : Hid ((inN u.code.length 1 600 && decide (u.guards.length ≤ 40) && inN u.slots 0 200 && inN u.frame 0 200) = false) := hid hh
  clear hh
  have HB := hid (bnew w (oU u ca cc ga gc))
  have HW1 := hid (fun w => in129 u.code.length 1 600 w)
  have HW2 := hid (fun w => in129 u.slots 0 200 w)
  have HW3 := hid (fun w => in129 u.frame 0 200 w)
  have ng : (u.guards.length : Int) ≤ 1000000 := by omega
  have nc : (u.code.length : Int) ≤ 1000000 := by omega
  obtain ⟨b1, hb1⟩ : ∃ b, b = inN u.code.length 1 600 := ⟨_, rfl⟩
  obtain ⟨b2, hb2⟩ : ∃ b, b = inN u.slots 0 200 := ⟨_, rfl⟩
  obtain ⟨b3, hb3⟩ : ∃ b, b = inN u.frame 0 200 := ⟨_, rfl⟩
  rw [← hb1] at HW1 H
  rw [← hb2] at HW2 H
  rw [← hb3] at HW3 H
  clear hb1 hb2 hb3
  generalize plainB u = r at *
  cases b1 with
  | false =>
    go_enter Tryz.func61, Tryz.ntmps61
    go_wp2_with (go_at_call 129; (with_reducible refine (HW1.out _).mono ?_); rintro e w' ⟨rfl, rfl⟩)
    go_ret
    exact ⟨ret_bool HP.out.symm, HB.out⟩
  | true =>
    by_cases h40 : u.guards.length ≤ 40
    · have d40 : decide ((40 : Int) < (u.guards.length : Int)) = false := decide_eq_false (by omega)
      rw [decide_eq_true h40] at H
      clear h40
      cases b2 with
      | false =>
        go_enter Tryz.func61, Tryz.ntmps61
        go_wp2_with (first
          | (go_at_call 129; (with_reducible refine (HW1.out _).mono ?_); rintro e w' ⟨rfl, rfl⟩)
          | (go_at_call 129; (with_reducible refine (HW2.out _).mono ?_); rintro e w' ⟨rfl, rfl⟩))
        go_ret
        exact ⟨ret_bool HP.out.symm, HB.out⟩
      | true =>
        cases b3 with
        | false =>
          go_enter Tryz.func61, Tryz.ntmps61
          go_wp2_with (first
            | (go_at_call 129; (with_reducible refine (HW1.out _).mono ?_); rintro e w' ⟨rfl, rfl⟩)
            | (go_at_call 129; (with_reducible refine (HW2.out _).mono ?_); rintro e w' ⟨rfl, rfl⟩)
            | (go_at_call 129; (with_reducible refine (HW3.out _).mono ?_); rintro e w' ⟨rfl, rfl⟩))
          go_ret
          exact ⟨ret_bool HP.out.symm, HB.out⟩
        | true => exact absurd H.out (by simp)
    · have d40 : decide ((40 : Int) < (u.guards.length : Int)) = true := decide_eq_true (by omega)
      clear h40
      go_enter Tryz.func61, Tryz.ntmps61
      go_wp2_with (go_at_call 129; (with_reducible refine (HW1.out _).mono ?_); rintro e w' ⟨rfl, rfl⟩)
      go_ret
      exact ⟨ret_bool HP.out.symm, HB.out⟩
set_option maxRecDepth 100000 in
set_option maxHeartbeats 8000000 in
theorem plain61_yes (u : UntN) (ca : Option Addr) (cc : Nat) (ga : Option Addr) (gc : Nat) (w : World) (hm : UnM w u ca cc ga gc) (h1 : inN u.code.length 1 600 = true) (h2 : u.guards.length ≤ 40) (h3 : inN u.slots 0 200 = true) (h4 : inN u.frame 0 200 = true) :
    Calls Tryz.prog 61 #[vU u ca cc ga gc] w (RetB (.bool (plainB u)) w) := by
  have HM := hid hm; clear hm
  have hlen : 1 ≤ u.code.length ∧ u.code.length ≤ 600 := by unfold inN at h1; simp at h1; omega
  have hhd : plainHd u = true := by unfold plainHd; rw [h1, h3, h4, decide_eq_true h2]; rfl
  have HP : Hid (plainB u = (u.code.all (plainIns u.code.length) && u.guards.all (plainGrd u.code.length))) := hid (by rw [plainB_eq, hhd]; rfl)
  clear hhd
  have HW1 := hid (fun w => in129 u.code.length 1 600 w)
  have HW2 := hid (fun w => in129 u.slots 0 200 w)
  have HW3 := hid (fun w => in129 u.frame 0 200 w)
  have HBAD := hid (fun j h hb => code_bad (u := u) (j := j) h hb)
  have HGAD := hid (fun j h hb => grd_bad (u := u) (j := j) h hb)
  rw [h1] at HW1
  rw [h3] at HW2
  rw [h4] at HW3
  clear h1 h3 h4
  obtain ⟨hl1, hl2⟩ := hlen
  have ng : ¬ (40 : Int) < (u.guards.length : Int) := by omega
  have d40 : decide ((40 : Int) < (u.guards.length : Int)) = false := decide_eq_false ng
  clear ng
  have HX1 := hid (heapn w (oU u ca cc ga gc) _ rfl)
  have HB := hid (bnew w (oU u ca cc ga gc))
  go_enter Tryz.func61, Tryz.ntmps61
  go_wp2_with (first
    | (go_at_call 129; (with_reducible refine (HW1.out _).mono ?_); rintro e w' ⟨rfl, rfl⟩)
    | (go_at_call 129; (with_reducible refine (HW2.out _).mono ?_); rintro e w' ⟨rfl, rfl⟩)
    | (go_at_call 129; (with_reducible refine (HW3.out _).mono ?_); rintro e w' ⟨rfl, rfl⟩))
  obtain ⟨w2, hw2⟩ : ∃ w2, w2 = w.alloc (oU u ca cc ga gc) := ⟨_, rfl⟩
  rw [← hw2] at HX1 HB
  rw [← hw2]
  clear hw2
  go_loopg [4] u.code.length (fun gh s4 wr => ∃ j : Nat, j ≤ u.code.length ∧ gh = u.code.length - j ∧ s4 = .int .i64 j ∧ Hid (∀ k (hk : k < u.code.length), k < j → plainIns u.code.length u.code[k] = true) ∧ Hid (Below w2.heap.size w2 wr))
  case atStart => exact ⟨0, Nat.zero_le _, rfl, rfl, hid (fun k _ h => absurd h (Nat.not_lt_zero _)), hid (Below.refl _ _)⟩
  case round =>
    obtain ⟨j, hj, rfl, rfl, HQ, HK⟩ := hrel
    by_cases hlj : j < u.code.length
    · obtain ⟨b2, off, ha, hlt2, c0, c1, c2, c3⟩ := (HM.out.rc.below (HB.out.step HK.out)) j hlj
      subst ha
      have nj : (j : Int) < (u.code.length : Int) := by omega
      have HF := hid (HBAD.out j hlj)
      have HS : Hid (plainIns u.code.length u.code[j] = true → ∀ k (hk : k < u.code.length), k < j + 1 → plainIns u.code.length u.code[k] = true) := hid (fun e k hk hkj => by
        by_cases h : k < j
        · exact HQ.out k hk h
        · obtain rfl : k = j := by omega
          exact e)
      obtain ⟨k0, k1, k2, k3, k4, k5, k6⟩ := box7 (keepBox HK.out HX1.out)
      have HRC := hid (fun w' (hb : Below wr.heap.size wr w') => (HM.out.rc.below (HB.out.step (HK.out.step hb))) j hlj)
      generalize hi : u.code[j] = i at *
      have HFO := hid (fun w => rowOf_any i.op w)
      have HJ := hid (fun w => jump131 i w)
      have HJV : Hid (jumpV i = .tuple #[.int .i64 ((placeO i).getD 0), .bool (placeO i).isSome]) := hid rfl
      have HD := hid (plainIns_one u.code.length i)
      clear hi
      generalize rowL i.op = r at *
      generalize opOk i.op = ok at *
      generalize placeO i = po at *
      rw [HJV.out] at HJ
      clear HJV
      cases ok with
      | false =>
        have HE := hid (HF.out (HD.out.trans (Bool.false_and _)))
        clear HF HS
        go_wp2_with (first
          | (go_at_call 130; refine (HFO.out _).mono ?_; rintro e w3 ⟨rfl, hb⟩; have HB3 := hid (hb.step (bnew w3 (.cells (cR r) 169))); have HK3 := hid (HK.out.step HB3.out); obtain ⟨y0, y1, y2, y3, y4, y5, y6⟩ := box7 (keepBox HK3.out HX1.out); obtain ⟨b3, off3, ha3, hlt3, d0, d1, d2, d3⟩ := HRC.out _ HB3.out; cases ha3; clear hb)
          | (go_at_call 131; refine (HJ.out _).mono ?_; rintro e w4 ⟨rfl, hb⟩; have HK4 := hid (HK3.out.step hb); clear hb))
        go_ret
        exact ⟨ret_bool HE.out.symm, HB.out.step HK4.out⟩
      | true =>
        cases po with
        | none =>
          have HT := hid (HS.out HD.out)
          clear HF HS
          go_wp2_with (first
            | (go_at_call 130; refine (HFO.out _).mono ?_; rintro e w3 ⟨rfl, hb⟩; have HB3 := hid (hb.step (bnew w3 (.cells (cR r) 169))); have HK3 := hid (HK.out.step HB3.out); obtain ⟨y0, y1, y2, y3, y4, y5, y6⟩ := box7 (keepBox HK3.out HX1.out); obtain ⟨b3, off3, ha3, hlt3, d0, d1, d2, d3⟩ := HRC.out _ HB3.out; cases ha3; clear hb)
            | (go_at_call 131; refine (HJ.out _).mono ?_; rintro e w4 ⟨rfl, hb⟩; have HK4 := hid (HK3.out.step hb); clear hb))
          go_roundg (u.code.length - (j + 1))
          case measure => omega
          case rel => exact ⟨j + 1, by omega, rfl, by go_num, HT, HK4⟩
        | some x =>
          have HW := hid (fun w => in129 x 0 ((u.code.length : Int) - 1) w)
          replace HD : Hid (plainIns u.code.length i = inN x 0 ((u.code.length : Int) - 1)) := hid HD.out
          generalize inN x 0 ((u.code.length : Int) - 1) = bq at *
          cases bq with
          | false =>
            have HE := hid (HF.out HD.out)
            clear HF HS
            go_wp2_with (first
              | (go_at_call 130; refine (HFO.out _).mono ?_; rintro e w3 ⟨rfl, hb⟩; have HB3 := hid (hb.step (bnew w3 (.cells (cR r) 169))); have HK3 := hid (HK.out.step HB3.out); obtain ⟨y0, y1, y2, y3, y4, y5, y6⟩ := box7 (keepBox HK3.out HX1.out); obtain ⟨b3, off3, ha3, hlt3, d0, d1, d2, d3⟩ := HRC.out _ HB3.out; cases ha3; clear hb)
              | (go_at_call 131; refine (HJ.out _).mono ?_; rintro e w4 ⟨rfl, hb⟩; have HK4 := hid (HK3.out.step hb); clear hb)
              | (go_at_call 129; refine (HW.out _).mono ?_; rintro e w5 ⟨rfl, rfl⟩))
            go_ret
            exact ⟨ret_bool HE.out.symm, HB.out.step HK4.out⟩
          | true =>
            have HT := hid (HS.out HD.out)
            clear HF HS
            go_wp2_with (first
              | (go_at_call 130; refine (HFO.out _).mono ?_; rintro e w3 ⟨rfl, hb⟩; have HB3 := hid (hb.step (bnew w3 (.cells (cR r) 169))); have HK3 := hid (HK.out.step HB3.out); obtain ⟨y0, y1, y2, y3, y4, y5, y6⟩ := box7 (keepBox HK3.out HX1.out); obtain ⟨b3, off3, ha3, hlt3, d0, d1, d2, d3⟩ := HRC.out _ HB3.out; cases ha3; clear hb)
              | (go_at_call 131; refine (HJ.out _).mono ?_; rintro e w4 ⟨rfl, hb⟩; have HK4 := hid (HK3.out.step hb); clear hb)
              | (go_at_call 129; refine (HW.out _).mono ?_; rintro e w5 ⟨rfl, rfl⟩))
            go_roundg (u.code.length - (j + 1))
            case measure => omega
            case rel => exact ⟨j + 1, by omega, rfl, by go_num, HT, HK4⟩
    · obtain rfl : j = u.code.length := by omega
      have HA : Hid (plainB u = u.guards.all (plainGrd u.code.length)) := hid (by
        rw [HP.out, List.all_eq_true.2 (fun x hx => by obtain ⟨k, hk, rfl⟩ := List.getElem_of_mem hx; exact HQ.out k hk hk), Bool.true_and])
      clear HBAD HQ HW1 HW2 HW3 HP
      have nj : ¬ (u.code.length : Int) < (u.code.length : Int) := by omega
      go_wp2
      clear nj
      go_loopg [9] u.guards.length (fun gh s9 w5 => ∃ m : Nat, m ≤ u.guards.length ∧ gh = u.guards.length - m ∧ s9 = .int .i64 m ∧ Hid (∀ k (hk : k < u.guards.length), k < m → plainGrd u.code.length u.guards[k] = true) ∧ Hid (Below w2.heap.size w2 w5))
      case atStart => exact ⟨0, Nat.zero_le _, rfl, rfl, hid (fun k _ h => absurd h (Nat.not_lt_zero _)), HK⟩
      case round =>
        clear HK
        obtain ⟨m, hm, rfl, rfl, HQ, HK⟩ := hrel
        obtain ⟨k0, k1, k2, k3, k4, k5, k6⟩ := box7 (keepBox HK.out HX1.out)
        by_cases hlm : m < u.guards.length
        · obtain ⟨b2, off, ha, hlt2, c0, c1, c2⟩ := (HM.out.rg.below (HB.out.step HK.out)) m hlm
          subst ha
          have nm : (m : Int) < (u.guards.length : Int) := by omega
          have HF := hid (HGAD.out m hlm)
          have HS : Hid (plainGrd u.code.length u.guards[m] = true → ∀ k (hk : k < u.guards.length), k < m + 1 → plainGrd u.code.length u.guards[k] = true) := hid (fun e k hk hkm => by
            by_cases h : k < m
            · exact HQ.out k hk h
            · obtain rfl : k = m := by omega
              exact e)
          have HBN := hid (HK.out.step (bnew wr (.cells #[.int .i64 u.guards[m].frm, .int .i64 u.guards[m].til, .int .i64 u.guards[m].at'] 90)))
          generalize u.guards[m] = g at *
          have HW := hid (fun w => in129 g.at' 0 ((u.code.length : Int) - 1) w)
          have HD : Hid (plainGrd u.code.length g = (decide (0 ≤ g.frm) && decide (g.frm < g.til) && decide (g.til ≤ u.code.length) && inN g.at' 0 ((u.code.length : Int) - 1))) := hid rfl
          generalize inN g.at' 0 ((u.code.length : Int) - 1) = bq at *
          by_cases h1 : 0 ≤ g.frm
          · have d1 : decide (g.frm < 0) = false := decide_eq_false (by omega)
            by_cases h2 : g.frm < g.til
            · have d2 : decide (g.til ≤ g.frm) = false := decide_eq_false (by omega)
              by_cases h3 : g.til ≤ u.code.length
              · have d3 : decide ((u.code.length : Int) < g.til) = false := decide_eq_false (by omega)
                replace HD := hid (HD.out.trans (by rw [decide_eq_true h1, decide_eq_true h2, decide_eq_true h3]; rfl : _ = bq))
                clear h1 h2 h3
                cases bq with
                | false =>
                  have HE := hid (HF.out HD.out)
                  clear HF HS
                  go_wp2_with (go_at_call 129; refine (HW.out _).mono ?_; rintro e w6 ⟨rfl, rfl⟩)
                  go_ret
                  exact ⟨ret_bool HE.out.symm, HB.out.step HBN.out⟩
                | true =>
                  have HT := hid (HS.out HD.out)
                  clear HF HS
                  go_wp2_with (go_at_call 129; refine (HW.out _).mono ?_; rintro e w6 ⟨rfl, rfl⟩)
                  go_roundg (u.guards.length - (m + 1))
                  case measure => omega
                  case rel => exact ⟨m + 1, by omega, rfl, by go_num, HT, HBN⟩
              · have d3 : decide ((u.code.length : Int) < g.til) = true := decide_eq_true (by omega)
                have HE := hid (HF.out (HD.out.trans (by rw [decide_eq_true h1, decide_eq_true h2, decide_eq_false h3]; rfl : _ = false)))
                clear h1 h2 h3 HF HS
                go_wp2
                go_ret
                exact ⟨ret_bool HE.out.symm, HB.out.step HBN.out⟩
            · have d2 : decide (g.til ≤ g.frm) = true := decide_eq_true (by omega)
              have HE := hid (HF.out (HD.out.trans (by rw [decide_eq_true h1, decide_eq_false h2]; rfl : _ = false)))
              clear h1 h2 HF HS
              go_wp2
              go_ret
              exact ⟨ret_bool HE.out.symm, HB.out.step HBN.out⟩
          · have d1 : decide (g.frm < 0) = true := decide_eq_true (by omega)
            have HE := hid (HF.out (HD.out.trans (by rw [decide_eq_false h1]; rfl : _ = false)))
            clear h1 HF HS
            go_wp2
            go_ret
            exact ⟨ret_bool HE.out.symm, HB.out.step HBN.out⟩
        · obtain rfl : m = u.guards.length := by omega
          have nm : ¬ (u.guards.length : Int) < (u.guards.length : Int) := by omega
          have HE : Hid (plainB u = true) := hid (by
            rw [HA.out]
            exact List.all_eq_true.2 (fun x hx => by obtain ⟨k, hk, rfl⟩ := List.getElem_of_mem hx; exact HQ.out k hk hk))
          go_wp2
          go_ret
          exact ⟨ret_bool HE.out.symm, HB.out.step HK.out⟩
theorem plain61 (u : UntN) (ca : Option Addr) (cc : Nat) (ga : Option Addr) (gc : Nat) (w : World) (hm : UnM w u ca cc ga gc) (hlc : u.code.length ≤ 1000000) (hlg : u.guards.length ≤ 1000000) :
    Calls Tryz.prog 61 #[vU u ca cc ga gc] w (RetB (.bool (plainB u)) w) := by
  cases hh : plainHd u with
  | false => exact plain61_no u ca cc ga gc w hlc hlg hh
  | true =>
    unfold plainHd at hh
    simp only [Bool.and_eq_true, decide_eq_true_eq] at hh
    exact plain61_yes u ca cc ga gc w hm hh.1.1.1 hh.1.1.2 hh.1.2 hh.2
end Go.Proofs.YtgalekifgnecjaaGreat
