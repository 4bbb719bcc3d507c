/- Contracts of Clique and Pick of package table. -/
import Derived.Test.YtecpkjhfbmchgaaG20
import Derived.Test.YtecpkjhfbmchgaaP1
namespace Go.Proofs.Ytecpkjhfbmchgaa
open Go.RowKit

/-- What a call returns: numbers, and a number. -/
def IntsRet (l : List Int) (y : Int) (w : World) (e : Ending) (w' : World) : Prop := Below w.heap.size w w' ∧ ∃ a c, e = .returned (.tuple #[.slice a l.length c, .int .i64 y]) ∧ RdI w' a l
theorem best_lt {m : List (List Int)} (hm : RightM m) : bestR m < m.length := by
  unfold bestR
  have h := order_length hm
  have h0 := hm.some'
  rw [getD_in (by omega)]
  exact (order_mem hm).1 (List.getElem_mem _)

set_option maxRecDepth 100000 in
set_option maxHeartbeats 4000000 in
theorem Clique_any (m : List (List Int)) (a : Option Addr) (cap : Nat) (w : World) (hl : RdM w a m) (h12 : chkM m = 0 → m.length ≤ 19) (hlen : m.length ≤ 1000000) (hrl : ∀ r, r ∈ m → r.length ≤ 1000000) :
    Calls Try.prog 12 #[.slice a m.length cap] w (IntsRet (cliqueV m) (chkM m) w) := by
  have HL := hid hl; clear hl
  have HR := hid hrl; clear hrl
  by_cases hE : chkM m = 0
  · have hm := chkM_ok hE
    have HM := hid hm
    have hv : cliqueV m = asI (cliqueL m) := by unfold cliqueV; rw [if_pos hE]; rfl
    rw [hv]
    have HE := hid hE
    have h19 := h12 hE
    have hb := best_lt hm
    have hol := order_length hm
    have h0 := hm.some'
    have hrow := hm.row hb
    have HROW := hid hrow
    have hat : (orderL m)[0]? = some (bestR m) := by
      rw [List.getElem?_eq_getElem (by omega)]
      unfold bestR
      rw [getD_in (by omega)]
    have HAT := hid hat
    have HOL := hid hol
    have n0 : (0 : Int) < (m.length : Int) := by omega
    have n1 : (bestR m : Int) < (m.length : Int) := by omega
    have hcl : Hid (cliqueL m = fullL (m.getD (bestR m) [])) := hid rfl
    obtain ⟨br, orr, har, hlr, ai, ci, hcr, hrr⟩ := HL.out.row hb
    subst har
    have HCR := hid hcr
    have HRR := hid hrr
    obtain ⟨row, hrw⟩ : ∃ row, row = m.getD (bestR m) [] := ⟨_, rfl⟩
    rw [← hrw] at hcl HROW HCR HRR
    rw [hcl.out]
    clear hE hm hv h12 hol hrow hat hrw hcr hrr
    generalize bestR m = bst at *
    go_enter Try.func12, Try.ntmps12
    go_wp2_with (first
      | (go_at_call 20; refine (check_any m _ cap _ HL.out hlen HR.out).mono ?_; rw [HE.out]; rintro e w' ⟨rfl, rfl⟩)
      | (go_at_call 21; (with_reducible refine (order_any m _ cap _ HM.out h19 HL.out).mono ?_); rintro e w3 ⟨hb3, gO, cO, rfl, hgO, hbi⟩; rw [asI_length, HOL.out]; have HB3 := hid hb3; have k0 := hbi.nat HAT.out; have k1 := cell_later hb3 HCR.out; clear hb3 hgO hbi)
      | (go_at_call 27; (with_reducible refine (full_any row ai ci _ (HRR.out.below HB3.out) HROW.out.2 (by rw [HROW.out.1]; have := HM.out.cols; omega)).mono ?_); rintro e w4 ⟨hb4, v, rfl, hown⟩; have HB4 := hid (HB3.out.step hb4); have HOWN := hid hown; clear hb4 hown))
    go_ret2
    obtain ⟨aF, cF, rfl, hrd⟩ := HOWN.out.rd
    rw [HE.out]
    exact ⟨HB4.out, aF, cF, rfl, hrd⟩
  · have hne : (chkM m == 0) = false := by rw [beq_eq_false_iff_ne]; exact hE
    have HV : Hid (cliqueV m = []) := hid (by unfold cliqueV; rw [if_neg hE])
    clear hE h12
    go_enter Try.func12, Try.ntmps12
    go_wp2_with (go_at_call 20; refine (check_any m _ cap _ HL.out hlen HR.out).mono ?_; rintro e w' ⟨rfl, rfl⟩)
    go_ret2
    rw [HV.out]
    exact ⟨Below.refl _ _, none, 0, rfl, fun i hi => absurd hi (Nat.not_lt_zero _)⟩

set_option maxRecDepth 100000 in
set_option maxHeartbeats 4000000 in
theorem Pick_any (C : List Int) (R : List (List (Int × Int))) (r c : Int) (ac : Option Addr) (cc : Nat) (ar : Option Addr) (cr : Nat) (w : World) (hc : RdI w ac C) (hr : RdG w ar R) (_hcl : C.length ≤ 1000000) (_hrl : R.length ≤ 1000000) (hrr : ∀ q, q ∈ R → q.length ≤ 9223372036854775807) :
    Calls Try.prog 14 #[.agg #[.slice ac C.length cc, .slice ar R.length cr], .int .i64 r, .int .i64 c] w (Ret2 (.int .i64 (pickV C R r c)) (.int .i64 (pickE C R r c)) w) := by
  have HC := hid hc; clear hc
  have HR := hid hr; clear hr
  have HB0 := hid (bnew w (.cells #[.slice ac C.length cc, .slice ar R.length cr] 53))
  have HX0 := hid (heapn w (.cells #[.slice ac C.length cc, .slice ar R.length cr] 53) _ rfl)
  obtain ⟨k0, k1, _, _⟩ := box2 HX0.out
  have hbad : ¬ (0 ≤ r ∧ r < R.length ∧ 0 ≤ c ∧ c < C.length) → Hid (pickE C R r c = 5 ∧ pickV C R r c = 0) := fun h => by
    have e : pickE C R r c = 5 := by
      unfold pickE
      rw [if_neg]
      unfold inRC
      simp
      omega
    exact hid ⟨e, by unfold pickV; rw [e]; rfl⟩
  by_cases h1 : r < 0
  · have HV := hbad (by omega)
    clear hbad
    go_enter Try.func14, Try.ntmps14
    go_wp2
    go_ret2
    rw [HV.out.1, HV.out.2]
    exact ⟨rfl, HB0.out⟩
  by_cases h2 : (R.length : Int) ≤ r
  · have HV := hbad (by omega)
    clear hbad
    go_enter Try.func14, Try.ntmps14
    go_wp2
    go_ret2
    rw [HV.out.1, HV.out.2]
    exact ⟨rfl, HB0.out⟩
  by_cases h3 : c < 0
  · have HV := hbad (by omega)
    clear hbad
    go_enter Try.func14, Try.ntmps14
    go_wp2
    go_ret2
    rw [HV.out.1, HV.out.2]
    exact ⟨rfl, HB0.out⟩
  by_cases h4 : (C.length : Int) ≤ c
  · have HV := hbad (by omega)
    clear hbad
    go_enter Try.func14, Try.ntmps14
    go_wp2
    go_ret2
    rw [HV.out.1, HV.out.2]
    exact ⟨rfl, HB0.out⟩
  obtain ⟨r, rfl⟩ : ∃ k : Nat, r = (k : Int) := ⟨r.toNat, by omega⟩
  obtain ⟨c, rfl⟩ : ∃ k : Nat, c = (k : Int) := ⟨c.toNat, by omega⟩
  have hr : r < R.length := by omega
  have hc : c < C.length := by omega
  have hin : inRC C R r c = true := by unfold inRC; simp; omega
  obtain ⟨bc, oc, hac, hltc, q1⟩ := HC.out c hc
  obtain ⟨bg, og, hag, hltg, ai, ci, q2, q3⟩ := HR.out r hr
  have hK : pkK C c = C[c] := by unfold pkK; rw [Int.toNat_natCast, getD_in hc]
  have hR : pkR R r = R[r] := by unfold pkR; rw [Int.toNat_natCast, getD_in hr]
  rw [← hK] at q1
  rw [← hR] at q2 q3
  have hql : (pkR R r).length ≤ 9223372036854775807 := by rw [hR]; exact hrr _ (List.getElem_mem _)
  have Q1 := hid (cell_later HB0.out q1)
  have Q2 := hid (cell_later HB0.out q2)
  have Q3 := hid (q3.below HB0.out)
  have HE : Hid (pickE C R r c = if 0 ≤ pkK C c ∧ pkK C c < (pkR R r).length then 0 else 1) := hid (by unfold pickE; rw [if_pos hin])
  have HVV : Hid (pickV C R r c = if pickE C R r c = 0 then (if ((pkR R r).getD (pkK C c).toNat (-1, -1)).1 = c then ((pkR R r).getD (pkK C c).toNat (-1, -1)).2 else -1) else 0) := hid rfl
  have hw1 : w.heap.size < (w.alloc (.cells #[.slice ac C.length cc, .slice ar R.length cr] 53)).heap.size := lt_alloc _ _
  subst hac
  subst hag
  clear hbad hin hK hR q1 q2 q3
  have q1 := Q1.out
  have q2 := Q2.out
  generalize pkR R r = row at *
  generalize pkK C c = k at *
  have nr : (r : Int) < (R.length : Int) := by omega
  have nc : (c : Int) < (C.length : Int) := by omega
  have HEE := HE
  by_cases h5 : k < 0
  · have he : pickE C R r c = 1 := by rw [HE.out, if_neg (by omega)]
    have HV : Hid (pickE C R r c = 1 ∧ pickV C R r c = 0) := hid ⟨he, by rw [HVV.out, he]; rfl⟩
    clear he
    go_enter Try.func14, Try.ntmps14
    go_upto_region 3 with fail
    go_quiet (fail)
    go_wp2
    go_ret2
    rw [HV.out.1, HV.out.2]
    exact ⟨rfl, bdrewN HB0.out _⟩
  by_cases h6 : (row.length : Int) ≤ k
  · have he : pickE C R r c = 1 := by rw [HE.out, if_neg (by omega)]
    have HV : Hid (pickE C R r c = 1 ∧ pickV C R r c = 0) := hid ⟨he, by rw [HVV.out, he]; rfl⟩
    clear he
    go_enter Try.func14, Try.ntmps14
    go_upto_region 3 with fail
    go_quiet (fail)
    go_wp2
    go_ret2
    rw [HV.out.1, HV.out.2]
    exact ⟨rfl, bdrewN HB0.out _⟩
  have he : pickE C R r c = 0 := by rw [HE.out, if_pos (by omega)]
  have hvv := HVV.out
  rw [he, if_pos rfl] at hvv
  obtain ⟨k, rfl⟩ : ∃ j : Nat, k = (j : Int) := ⟨k.toNat, by omega⟩
  rw [Int.toNat_natCast] at hvv
  have hk : k < row.length := by omega
  obtain ⟨bx, ox, hax, hltx, x1, x2⟩ := Q3.out k hk
  rw [getD_in hk] at hvv
  have HE0 := hid he
  have HV0 := hid hvv
  have nk : (k : Int) < (row.length : Int) := by omega
  subst hax
  clear he hvv HE HVV HEE
  obtain ⟨x, hx⟩ : ∃ x, x = row[k] := ⟨_, rfl⟩
  rw [← hx] at x1 x2 HV0
  clear hx
  obtain ⟨x, y⟩ := x
  simp only at x1 x2
  by_cases h7 : x = (c : Int)
  · have hd : (x != (c : Int)) = false := by simp [h7]
    have HV : Hid (pickV C R r c = y) := hid (by rw [HV0.out, if_pos h7])
    clear h7 HV0
    go_enter Try.func14, Try.ntmps14
    go_upto_region 3 with fail
    go_quiet (fail)
    go_wp2
    go_ret2
    rw [HV.out, HE0.out]
    exact ⟨rfl, bdrewN HB0.out _⟩
  · have hd : (x != (c : Int)) = true := by simp [h7]
    have HV : Hid (pickV C R r c = -1) := hid (by rw [HV0.out, if_neg h7])
    clear h7 HV0
    go_enter Try.func14, Try.ntmps14
    go_upto_region 3 with fail
    go_quiet (fail)
    go_wp2
    go_ret2
    rw [HV.out, HE0.out]
    exact ⟨rfl, bdrewN HB0.out _⟩
end Go.Proofs.Ytecpkjhfbmchgaa
