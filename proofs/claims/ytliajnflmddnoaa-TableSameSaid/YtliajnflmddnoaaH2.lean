/- The walk of TableSame. -/
import Derived.Test.YtliajnflmddnoaaH1
import Derived.Test.YtliajnflmddnoaaP6
namespace Go.Proofs.Ytliajnflmddnoaa
open Go.RowKit

set_option maxRecDepth 100000 in
set_option maxHeartbeats 8000000 in
theorem same_ok (m : List (List Int)) (a : Option Addr) (cap : Nat) (r c : Int) (w : World) (hl : RdM w a m) (hs : smallB m = true) (hE : chkM m = 0) (hr : 0 ≤ r ∧ r ≤ 255) (hc : 0 ≤ c ∧ c ≤ 255) :
    Calls Try.prog 10 #[.slice a m.length cap, .int .u8 r, .int .u8 c] w (RetB (.bool true) w) := by
  have HL := hid hl; clear hl
  have hm := chkM_ok hE
  have HM := hid hm
  obtain ⟨h12, h40⟩ := small_in hs hm
  obtain ⟨hsl, hcl, hfit⟩ := lay_fit hm h12
  have HSL := hid hsl
  have hrl : ∀ r, r ∈ m → r.length ≤ 1000000 := fun r hr => by
    obtain ⟨i, hi, rfl⟩ := List.getElem_of_mem hr
    rw [hm.len i hi]
    omega
  have HSM := hid (fun (w : World) (h : RdM w a m) => (by
    have := small_any m a cap w h (by omega) (fun r hr => by have := hrl r hr; omega)
    rw [hs] at this; exact this : Calls Try.prog 13 #[.slice a m.length cap] w (RetS (.bool true) w)))
  have HCK := hid (fun (w : World) (h : RdM w a m) => (by have := check_any m a cap w h (by omega) hrl; rw [hE] at this; exact this : Calls Try.prog 28 #[.slice a m.length cap] w (RetS (.int .i64 0) w)))
  have HLY := hid (fun (w : World) (h : RdM w a m) => (by
    have := Lay_any m a cap w h (fun _ => by omega) (by omega) hrl
    rw [hE, show layV m = layR m from if_pos hE] at this
    exact this : Calls Try.prog 20 #[.slice a m.length cap] w (LdRet2 (layR m) 0 w)))
  have HFD := hid (fun (w : World) (h : RdM w a m) => (by
    have := Fold_any m a cap w h (by omega) hrl
    rw [hE] at this
    exact this : Calls Try.prog 15 #[.slice a m.length cap] w (FoldRet (foldC m) (foldV m) 0 w)))
  have hfl : (foldC m).length = colsN m ∧ (foldV m).length = m.length := by
    refine ⟨?_, ?_⟩
    · unfold foldC
      rw [if_pos hE, List.length_map, colL_length]
    · unfold foldV
      rw [if_pos hE]
      unfold foldG
      rw [List.length_map]
  have HFL := hid hfl
  have HBK := hid (fun (w : World) (sa : Option Addr) (sc : Nat) (ca : Option Addr) (cc : Nat) (h : LdM w (layR m) sa sc ca cc) => (by
    have := Back_any (layR m) hfit sa sc ca cc w h
    rw [(lay_right hm).chk, back_lay hm] at this
    unfold vL at this
    rw [hsl] at this
    exact this : Calls Try.prog 34 #[.agg #[.int .i64 (colsN m), .slice sa m.length sc, .slice ca (layR m).cells.length cc]] w (MatRet m 0 w)))
  have HCL := hid (fun (w : World) (sa : Option Addr) (sc : Nat) (ca : Option Addr) (cc : Nat) (h : LdM w (layR m) sa sc ca cc) => (by
    have := checkL_any (layR m) hfit sa sc ca cc w h
    rw [(lay_right hm).chk] at this
    unfold vL at this
    rw [hsl] at this
    exact this : Calls Try.prog 30 #[.agg #[.int .i64 (colsN m), .slice sa m.length sc, .slice ca (layR m).cells.length cc]] w (RetB (.int .i64 0) w)))
  have HLK := hid (fun (i k : Nat) (hi : i < m.length) (hk : k < colsN m) (w : World) (sa : Option Addr) (sc : Nat) (ca : Option Addr) (cc : Nat) (h : LdM w (layR m) sa sc ca cc) => (by
    have := Look_any (layR m) hfit i k sa sc ca cc w h
    rw [(look_lay hm hi hk).1, (look_lay hm hi hk).2] at this
    unfold vL at this
    rw [hsl] at this
    exact this : Calls Try.prog 31 #[.agg #[.int .i64 (colsN m), .slice sa m.length sc, .slice ca (layR m).cells.length cc], .int .i64 i, .int .i64 k] w (Ret2 (.int .i64 (ent m i k)) (.int .i64 0) w)))
  have HPK := hid (fun (i k : Nat) (hi : i < m.length) (hk : k < colsN m) (w : World) (ac : Option Addr) (cc : Nat) (ar : Option Addr) (cr : Nat) (h1 : RdI w ac (foldC m)) (h2 : RdG w ar (foldV m)) => (by
    have := Pick_any (foldC m) (foldV m) i k ac cc ar cr w h1 h2 (by rw [hfl.1]; omega) (by rw [hfl.2]; omega) (fun q hq => by
      have : foldV m = foldG m := if_pos hE
      rw [this] at hq
      unfold foldG at hq
      obtain ⟨row, _, rfl⟩ := List.mem_map.1 hq
      unfold foldRow
      rw [foldU_length]
      have := many_cols m (colsN m)
      omega)
    rw [(fold_pick hm hi hk).1, (fold_pick hm hi hk).2, hfl.1, hfl.2] at this
    exact this : Calls Try.prog 17 #[.agg #[.slice ac (colsN m) cc, .slice ar m.length cr], .int .i64 i, .int .i64 k] w (Ret2 (.int .i64 (ent m i k)) (.int .i64 0) w)))
  have HSX := hid (fun (b : Option Addr) (cb : Nat) (w : World) (h1 : RdM w b m) (h2 : RdM w a m) => (by
    have := same_matrix m m b a cb cap w h1 h2 (by omega) (by omega) hrl hrl
    rw [decide_eq_true rfl] at this
    exact this : Calls Try.prog 38 #[.slice b m.length cb, .slice a m.length cap] w (RetB (.bool true) w)))
  obtain ⟨b0, o0, ha, hlt0, ai0, ci0, hc0⟩ := HL.out.head hm.some'
  subst ha
  have HC0 := hid hc0
  have n0 : (0 : Int) < (m.length : Int) := by have := hm.some'; omega
  have h0 := hm.some'
  obtain ⟨hr0, hr1⟩ := hr
  obtain ⟨hc00, hc01⟩ := hc
  obtain ⟨r, rfl⟩ : ∃ k : Nat, r = (k : Int) := ⟨r.toNat, by omega⟩
  obtain ⟨c, rfl⟩ : ∃ k : Nat, c = (k : Int) := ⟨c.toNat, by omega⟩
  clear hs hE hm hsl hfit hrl hc0 hfl
  obtain ⟨cn, hcn⟩ : ∃ k, k = (layR m).cells.length := ⟨_, rfl⟩
  rw [← hcn] at HBK HCL HLK
  have HCN := hid hcn
  clear hcn hcl
  go_enter Try.func10, Try.ntmps10
  go_upto_region 8 with (first
    | (go_at_call 13; refine (HSM.out _ HL.out).mono ?_; rintro e w1 ⟨rfl, rfl⟩)
    | (go_at_call 28; refine (HCK.out _ HL.out).mono ?_; rintro e w1 ⟨rfl, rfl⟩)
    | (go_at_call 15; refine (HFD.out _ HL.out).mono ?_; rintro e w1 ⟨hb, ac, cc, ar, cr, rfl, hr1, hr2⟩; rw [HFL.out.1, HFL.out.2]; have HB1 := hid hb; have HFC := hid hr1; have HFR := hid hr2; clear hb hr1 hr2)
    | (go_at_call 20; refine (HLY.out _ (HL.out.below (HB1.out.step (bnew _ _)))).mono ?_; rintro e w2 ⟨hb, sa, sc, ca, cc2, rfl, hld⟩; rw [show vL (layR m) sa sc ca cc2 = .agg #[.int .i64 (colsN m), .slice sa m.length sc, .slice ca cn cc2] from by unfold vL; rw [HSL.out, ← HCN.out]; rfl]; have HX7 := hid (keepBox hb (heapn w1 (.cells #[.slice ac (colsN m) cc, .slice ar m.length cr] 26) _ rfl)); have HB2 := hid (HB1.out.step ((bnew _ _).step hb)); have HFC := hid (HFC.out.below ((bnew _ _).step hb)); have HFR := hid (HFR.out.below ((bnew _ _).step hb)); have HLD := hid hld; clear hb hld)
    | (go_at_call 34; ((with_reducible refine (HBK.out _ sa sc ca cc2 (HLD.out.below (bnew _ _))).mono ?_); rintro e w3 ⟨hb, aB, cB, rfl, hrb⟩); have HX9 := hid (keepBox hb (heapn w2 (.cells #[.int .i64 (colsN m), .slice sa m.length sc, .slice ca cn cc2] 44) _ rfl)); have HX7 := hid (keepBox ((bnew _ _).step hb) HX7.out); have HB3 := hid (HB2.out.step ((bnew _ _).step hb)); have HFC := hid (HFC.out.below ((bnew _ _).step hb)); have HFR := hid (HFR.out.below ((bnew _ _).step hb)); have HLD := hid (HLD.out.below ((bnew _ _).step hb)); have HRB := hid hrb; obtain ⟨k0, k1, k2, _, _, _⟩ := box3 HX9.out; clear hb hrb)
    | (go_at_call 30; ((with_reducible refine (HCL.out _ sa sc ca cc2 HLD.out).mono ?_); rintro e w4 ⟨rfl, hb⟩); have HX9 := hid (keepBox hb HX9.out); have HX7 := hid (keepBox hb HX7.out); have HB4 := hid (HB3.out.step hb); have HFC := hid (HFC.out.below hb); have HFR := hid (HFR.out.below hb); have HLD := hid (HLD.out.below hb); have HRB := hid (HRB.out.below hb); clear hb)
    | (go_at_call 38; ((with_reducible refine (HSX.out aB cB _ HRB.out (HL.out.below HB4.out)).mono ?_); rintro e w5 ⟨rfl, hb⟩); have HX9 := hid (keepBox hb HX9.out); have HX7 := hid (keepBox hb HX7.out); have HB5 := hid (HB4.out.step hb); have HFC := hid (HFC.out.below hb); have HFR := hid (HFR.out.below hb); have HLD := hid (HLD.out.below hb); clear hb))
  have q0 := cell_later HB5.out HC0.out
  clear k0 k1 k2
  by_cases hz : colsN m = 0
  · have hz1 : ((colsN m : Int) == 0) = true := by rw [hz]; rfl
    have HZ := hid hz
    clear hz
    go_wp2_with (go_at_call 14; (refine (sanity_any _).mono ?_); rintro e w9 ⟨rfl, hb⟩; have HB9 := hid hb; clear hb)
    go_ret
    exact ⟨rfl, HB5.out.step HB9.out⟩
  · have hz1 : ((colsN m : Int) == 0) = false := by simp; omega
    have hcp : (0 : Int) < (colsN m : Int) := by omega
    go_upto_region 12 with fail
    obtain ⟨i, hie⟩ : ∃ i : Nat, (i : Int) = (r : Int) % (m.length : Int) := ⟨r % m.length, by rw [Int.natCast_emod]⟩
    obtain ⟨k, hke⟩ : ∃ k : Nat, (k : Int) = (c : Int) % (colsN m : Int) := ⟨c % colsN m, by rw [Int.natCast_emod]⟩
    have hi : i < m.length := by
      have := Int.emod_lt_of_pos (r : Int) n0
      omega
    have hk : k < colsN m := by
      have := Int.emod_lt_of_pos (c : Int) hcp
      omega
    rw [← hie, ← hke]
    clear hie hke q0
    obtain ⟨p0, p1, _, _⟩ := box2 HX7.out
    obtain ⟨k0, k1, k2, _, _, _⟩ := box3 HX9.out
    have hent : (m.getD i []).getD k (-1) = ent m i k := rfl
    obtain ⟨br, orr, har, hlr, ai, ci, hcr, hrr⟩ := HL.out.row hi
    cases har
    have hrl2 := (HM.out.row hi).1
    obtain ⟨bq, oq, hai, hlq, h2⟩ := hrr.at (i := k) (by rw [hrl2]; exact hk)
    rw [hent] at h2
    rw [hrl2] at hcr
    subst hai
    have H2 := hid h2
    have HCR := hid hcr
    have HPK2 := hid (HPK.out i k hi hk)
    have HLK2 := hid (HLK.out i k hi hk)
    have ni : (i : Int) < (m.length : Int) := by omega
    have nk : (k : Int) < (colsN m : Int) := by omega
    generalize ent m i k = x at *
    clear h2 hcr hent hrl2 hrr
    go_wp2_with (first
      | (go_at_call 17; ((with_reducible refine (HPK2.out _ ac cc ar cr HFC.out HFR.out).mono ?_); rintro e w6 ⟨rfl, hb⟩); have HX9 := hid (keepBox hb HX9.out); have HB6 := hid (HB5.out.step hb); have HLD := hid (HLD.out.below hb); obtain ⟨k0, k1, k2, _, _, _⟩ := box3 HX9.out; clear hb)
      | (go_at_call 31; ((with_reducible refine (HLK2.out _ sa sc ca cc2 HLD.out).mono ?_); rintro e w7 ⟨rfl, hb⟩); have HB7 := hid (HB6.out.step hb); clear hb)
      | (go_at_call 14; (refine (sanity_any _).mono ?_); rintro e w9 ⟨rfl, hb⟩; have HB9 := hid (HB7.out.step hb); have hcr := cell_later HB9.out HCR.out; have h2 := cell_later HB9.out H2.out; clear hb))
    go_ret
    exact ⟨rfl, HB9.out⟩
theorem same_any (m : List (List Int)) (a : Option Addr) (cap : Nat) (r c : Int) (w : World) (hl : RdM w a m) (hlen : m.length ≤ 9223372036854775807) (hrl : ∀ r, r ∈ m → r.length ≤ 9223372036854775807) (hr : 0 ≤ r ∧ r ≤ 255) (hc : 0 ≤ c ∧ c ≤ 255) :
    Calls Try.prog 10 #[.slice a m.length cap, .int .u8 r, .int .u8 c] w (RetB (.bool true) w) := by
  have HSM := hid (small_any m a cap w hl hlen hrl)
  cases hs : smallB m with
  | false =>
    rw [hs] at HSM
    clear hl hrl hs
    go_enter Try.func10, Try.ntmps10
    go_wp2_with (first
      | (go_at_call 13; refine HSM.out.mono ?_; rintro e w1 ⟨rfl, rfl⟩)
      | (go_at_call 14; refine (sanity_any _).mono ?_; rintro e w1 ⟨rfl, hb⟩; have HB := hid hb; clear hb))
    go_ret
    exact ⟨rfl, HB.out⟩
  | true =>
    by_cases hE : chkM m = 0
    · exact same_ok m a cap r c w hl hs hE hr hc
    · rw [hs] at HSM
      obtain ⟨q1, q2⟩ := small_len hs
      have HCK := hid (check_any m a cap w hl (by omega) (fun r hr => by have := q2 r hr; omega))
      have hne : (chkM m == 0) = false := by rw [beq_eq_false_iff_ne]; exact hE
      have hne2 : (chkM m != 0) = true := by rw [bne, hne]; rfl
      clear hl hrl hs hE q2
      go_enter Try.func10, Try.ntmps10
      go_wp2_with (first
        | (go_at_call 13; refine HSM.out.mono ?_; rintro e w1 ⟨rfl, rfl⟩)
        | (go_at_call 28; refine HCK.out.mono ?_; rintro e w1 ⟨rfl, rfl⟩)
        | (go_at_call 14; refine (sanity_any _).mono ?_; rintro e w1 ⟨rfl, hb⟩; have HB := hid hb; clear hb))
      go_ret
      exact ⟨rfl, HB.out⟩
end Go.Proofs.Ytliajnflmddnoaa
