/- The contract of the reference's Pick. -/
import Derived.Test.YtliajnflmddnoaaQ9
import Derived.Test.YtliajnflmddnoaaG21
namespace Go.Proofs.Ytliajnflmddnoaa
open Go.RowKit

set_option maxRecDepth 100000 in
set_option maxHeartbeats 4000000 in
theorem rpick_out (C : List Int) (R : List (List (Int × Int))) (r c : Int) (ac : Option Addr) (cc : Nat) (ar : Option Addr) (cr : Nat) (w : World) (hcl : C.length ≤ 1000000) (hrl : R.length ≤ 1000000) (hin : inRC C R r c = false) :
    Calls Try.prog 18 #[.agg #[.slice ac C.length cc, .slice ar R.length cr], .int .i64 r, .int .i64 c] w (RetB (.agg #[.int .i64 (pickV C R r c), .int .i64 (pickE C R r c)]) w) := by
  have e : pickE C R r c = 5 ∧ pickV C R r c = 0 := by
    have e : pickE C R r c = 5 := by unfold pickE; rw [hin]; rfl
    exact ⟨e, by unfold pickV; rw [e]; rfl⟩
  rw [e.1, e.2]
  clear e
  unfold inRC at hin
  obtain ⟨hb0, hx0, hr0⟩ := two_new w #[.slice ac C.length cc, .slice ar R.length cr] #[.int .i64 0, .int .i64 0] 26 38
  have hR1 := fun w => in_any r 0 ((R.length : Int) - 1) w
  have hC1 := fun w => in_any c 0 ((C.length : Int) - 1) w
  rw [in_rows] at hR1 hC1
  have HB0 := hid hb0
  have HX0 := hid hx0
  have HR0 := hid hr0
  obtain ⟨k0, k1, _, _⟩ := box2 hx0
  obtain ⟨r0, r1, z0, z1⟩ := box2 hr0
  generalize (decide (0 ≤ r) && decide (r < (R.length : Int))) = p at *
  generalize (decide (0 ≤ c) && decide (c < (C.length : Int))) = q at *
  have HR1 := hid hR1
  have HC1 := hid hC1
  have HIN := hid hin
  clear hb0 hx0 hr0 hR1 hC1 hin
  cases p with
  | false =>
    go_enter Try.func18, Try.ntmps18
    go_wp2_with (first
      | (go_at_call 53; (with_reducible refine (HR1.out _).mono ?_); rintro e w' ⟨rfl, rfl⟩)
      | (go_at_call 53; (with_reducible refine (HC1.out _).mono ?_); rintro e w' ⟨rfl, rfl⟩))
    refine bodyPost_ret (v := .agg #[.int .i64 0, .int .i64 5]) (by simp [results, Try.results18, go_sem]) rfl ⟨rfl, bmore (bnew _ _) _⟩
  | true =>
    have hq : q = false := by have := HIN.out; simpa using this
    subst hq
    clear HIN
    go_enter Try.func18, Try.ntmps18
    go_wp2_with (first
      | (go_at_call 53; (with_reducible refine (HR1.out _).mono ?_); rintro e w' ⟨rfl, rfl⟩)
      | (go_at_call 53; (with_reducible refine (HC1.out _).mono ?_); rintro e w' ⟨rfl, rfl⟩))
    refine bodyPost_ret (v := .agg #[.int .i64 0, .int .i64 5]) (by simp [results, Try.results18, go_sem]) rfl ⟨rfl, bmore (bnew _ _) _⟩

set_option maxRecDepth 100000 in
set_option maxHeartbeats 4000000 in
theorem rpick_bad (C : List Int) (R : List (List (Int × Int))) (r c : Nat) (ac : Option Addr) (cc : Nat) (ar : Option Addr) (cr : Nat) (w : World) (hc : RdI w ac C) (hr : RdG w ar R) (hcl : C.length ≤ 1000000) (hrl : R.length ≤ 1000000) (hrr : ∀ q, q ∈ R → q.length ≤ 9223372036854775807) (h1 : r < R.length) (h2 : c < C.length) (hk : ¬ (0 ≤ pkK C c ∧ pkK C c < (pkR R r).length)) :
    Calls Try.prog 18 #[.agg #[.slice ac C.length cc, .slice ar R.length cr], .int .i64 r, .int .i64 c] w (RetB (.agg #[.int .i64 (pickV C R r c), .int .i64 (pickE C R r c)]) w) := by
  have HC := hid hc; clear hc
  have HR := hid hr; clear hr
  have hin : inRC C R r c = true := by unfold inRC; simp; omega
  obtain ⟨bc, oc, hac, hltc, q1⟩ := HC.out c h2
  obtain ⟨bg, og, hag, hltg, ai, ci, q2, q3⟩ := HR.out r h1
  have hK : pkK C c = C[c] := by unfold pkK; rw [Int.toNat_natCast, getD_in h2]
  have hRR : pkR R r = R[r] := by unfold pkR; rw [Int.toNat_natCast, getD_in h1]
  rw [← hK] at q1
  rw [← hRR] at q2 q3
  have hql : (pkR R r).length ≤ 9223372036854775807 := by rw [hRR]; exact hrr _ (List.getElem_mem _)
  have HE : Hid (pickE C R r c = if 0 ≤ pkK C c ∧ pkK C c < (pkR R r).length then 0 else 1) := hid (by unfold pickE; rw [if_pos hin])
  have HVV : Hid (pickV C R r c = if pickE C R r c = 0 then (if ((pkR R r).getD (pkK C c).toNat (-1, -1)).1 = c then ((pkR R r).getD (pkK C c).toNat (-1, -1)).2 else -1) else 0) := hid rfl
  obtain ⟨hb0, hx0, hr0⟩ := two_new w #[.slice ac C.length cc, .slice ar R.length cr] #[.int .i64 0, .int .i64 0] 26 38
  have hR1 := fun w => in_any (r : Int) 0 ((R.length : Int) - 1) w
  have hC1 := fun w => in_any (c : Int) 0 ((C.length : Int) - 1) w
  rw [show inB (r : Int) 0 ((R.length : Int) - 1) = true from decide_eq_true (by omega)] at hR1
  rw [show inB (c : Int) 0 ((C.length : Int) - 1) = true from decide_eq_true (by omega)] at hC1
  have HR1 := hid hR1
  have HC1 := hid hC1
  have q1 := cell_later hb0 q1
  have q2 := cell_later hb0 q2
  have q3 := q3.below hb0
  have Q3 := hid q3
  have HB0 := hid hb0
  have HX0 := hid hx0
  have HR0 := hid hr0
  obtain ⟨k0, k1, _, _⟩ := box2 hx0
  obtain ⟨r0, r1, z0, z1⟩ := box2 hr0
  subst hac
  subst hag
  clear hb0 hx0 hr0 hR1 hC1 hin hK hRR q3
  generalize pkR R r = row at *
  generalize pkK C c = k at *
  have nr : (r : Int) < (R.length : Int) := by omega
  have nc : (c : Int) < (C.length : Int) := by omega
  have hK1 := fun w => in_any k 0 ((row.length : Int) - 1) w
  rw [in_rows] at hK1
  have he : pickE C R r c = 1 := HE.out.trans (if_neg hk)
  have HV : Hid (pickE C R r c = 1 ∧ pickV C R r c = 0) := hid ⟨he, by rw [HVV.out, he]; rfl⟩
  rw [show (decide (0 ≤ k) && decide (k < (row.length : Int))) = false from by
    rw [Bool.eq_false_iff]; simp; omega] at hK1
  have HK1 := hid hK1
  clear he hK1 hk
  go_enter Try.func18, Try.ntmps18
  go_upto_region 5 with (first
    | (go_at_call 53; (with_reducible refine (HR1.out _).mono ?_); rintro e w' ⟨rfl, rfl⟩)
    | (go_at_call 53; (with_reducible refine (HC1.out _).mono ?_); rintro e w' ⟨rfl, rfl⟩))
  go_quiet ((go_at_call 53; with_reducible exact Calls.quiet_of_same (retS (HK1.out _))))
  go_wp2
  refine bodyPost_ret (v := .agg #[.int .i64 0, .int .i64 1]) (by simp [results, Try.results18, go_sem, r0, r1]) rfl ⟨by rw [HV.out.1, HV.out.2], ((bdrewN HB0.out _).setCell (by simp) _).setCell (by simp) _⟩

set_option maxRecDepth 100000 in
set_option maxHeartbeats 4000000 in
theorem rpick_ok (C : List Int) (R : List (List (Int × Int))) (r c : Nat) (ac : Option Addr) (cc : Nat) (ar : Option Addr) (cr : Nat) (w : World) (hc : RdI w ac C) (hr : RdG w ar R) (hcl : C.length ≤ 1000000) (hrl : R.length ≤ 1000000) (hrr : ∀ q, q ∈ R → q.length ≤ 9223372036854775807) (h1 : r < R.length) (h2 : c < C.length) (hk : 0 ≤ pkK C c ∧ pkK C c < (pkR R r).length) :
    Calls Try.prog 18 #[.agg #[.slice ac C.length cc, .slice ar R.length cr], .int .i64 r, .int .i64 c] w (RetB (.agg #[.int .i64 (pickV C R r c), .int .i64 (pickE C R r c)]) w) := by
  have HC := hid hc; clear hc
  have HR := hid hr; clear hr
  have hin : inRC C R r c = true := by unfold inRC; simp; omega
  obtain ⟨bc, oc, hac, hltc, q1⟩ := HC.out c h2
  obtain ⟨bg, og, hag, hltg, ai, ci, q2, q3⟩ := HR.out r h1
  have hK : pkK C c = C[c] := by unfold pkK; rw [Int.toNat_natCast, getD_in h2]
  have hRR : pkR R r = R[r] := by unfold pkR; rw [Int.toNat_natCast, getD_in h1]
  rw [← hK] at q1
  rw [← hRR] at q2 q3
  have hql : (pkR R r).length ≤ 9223372036854775807 := by rw [hRR]; exact hrr _ (List.getElem_mem _)
  have HE : Hid (pickE C R r c = if 0 ≤ pkK C c ∧ pkK C c < (pkR R r).length then 0 else 1) := hid (by unfold pickE; rw [if_pos hin])
  have HVV : Hid (pickV C R r c = if pickE C R r c = 0 then (if ((pkR R r).getD (pkK C c).toNat (-1, -1)).1 = c then ((pkR R r).getD (pkK C c).toNat (-1, -1)).2 else -1) else 0) := hid rfl
  obtain ⟨hb0, hx0, hr0⟩ := two_new w #[.slice ac C.length cc, .slice ar R.length cr] #[.int .i64 0, .int .i64 0] 26 38
  have hR1 := fun w => in_any (r : Int) 0 ((R.length : Int) - 1) w
  have hC1 := fun w => in_any (c : Int) 0 ((C.length : Int) - 1) w
  rw [show inB (r : Int) 0 ((R.length : Int) - 1) = true from decide_eq_true (by omega)] at hR1
  rw [show inB (c : Int) 0 ((C.length : Int) - 1) = true from decide_eq_true (by omega)] at hC1
  have HR1 := hid hR1
  have HC1 := hid hC1
  have q1 := cell_later hb0 q1
  have q2 := cell_later hb0 q2
  have q3 := q3.below hb0
  have Q3 := hid q3
  have HB0 := hid hb0
  have HX0 := hid hx0
  have HR0 := hid hr0
  obtain ⟨k0, k1, _, _⟩ := box2 hx0
  obtain ⟨r0, r1, z0, z1⟩ := box2 hr0
  subst hac
  subst hag
  clear hb0 hx0 hr0 hR1 hC1 hin hK hRR q3
  generalize pkR R r = row at *
  generalize pkK C c = k at *
  have nr : (r : Int) < (R.length : Int) := by omega
  have nc : (c : Int) < (C.length : Int) := by omega
  have hK1 := fun w => in_any k 0 ((row.length : Int) - 1) w
  rw [in_rows] at hK1
  have he : pickE C R r c = 0 := HE.out.trans (if_pos hk)
  have hvv := HVV.out
  rw [he, if_pos rfl] at hvv
  rw [show (decide (0 ≤ k) && decide (k < (row.length : Int))) = true from by simp; omega] at hK1
  have HK1 := hid hK1
  obtain ⟨k, rfl⟩ : ∃ j : Nat, k = (j : Int) := ⟨k.toNat, by omega⟩
  rw [Int.toNat_natCast] at hvv
  have hkl : k < row.length := by omega
  obtain ⟨bx, ox, hax, hltx, x1, x2⟩ := Q3.out k hkl
  rw [getD_in hkl] at hvv
  have HE0 := hid he
  have HV0 := hid hvv
  have nk : (k : Int) < (row.length : Int) := by omega
  subst hax
  clear he hvv HE HVV hK1 hk
  obtain ⟨x, hx⟩ : ∃ x, x = row[k] := ⟨_, rfl⟩
  rw [← hx] at x1 x2 HV0
  clear hx
  obtain ⟨x, y⟩ := x
  simp only at x1 x2 HV0
  go_enter Try.func18, Try.ntmps18
  go_upto_region 5 with (first
    | (go_at_call 53; (with_reducible refine (HR1.out _).mono ?_); rintro e w' ⟨rfl, rfl⟩)
    | (go_at_call 53; (with_reducible refine (HC1.out _).mono ?_); rintro e w' ⟨rfl, rfl⟩))
  generalize (w.alloc (.cells #[.slice (some ⟨bc, oc, none⟩) C.length cc, .slice (some ⟨bg, og, none⟩) R.length cr] 26)).alloc (.cells #[.int .i64 0, .int .i64 0] 38) = w1 at *
  have HB1 : Hid (∀ wx, Below w1.heap.size w1 wx → Below w.heap.size w wx ∧ wx.heap[w.heap.size + 1]? = some (.cells #[.int .i64 0, .int .i64 0] 38 (0, 0)) ∧ wx.cell? ⟨w.heap.size, 0, none⟩ = some (.slice (some ⟨bc, oc, none⟩) C.length cc) ∧ wx.cell? ⟨w.heap.size, 1, none⟩ = some (.slice (some ⟨bg, og, none⟩) R.length cr) ∧ wx.cell? ⟨bc, oc + c, none⟩ = some (.int .i64 k) ∧ wx.cell? ⟨bg, og + r, none⟩ = some (.slice (some ⟨bx, ox, none⟩) row.length ci) ∧ wx.cell? ⟨bx, ox + k * 2, none⟩ = some (.int .i64 x) ∧ wx.cell? ⟨bx, ox + k * 2 + 1, none⟩ = some (.int .i64 y)) := hid fun wx h => ⟨HB0.out.trans (h.mono HB0.out.size), keepBox h HR0.out, cell_later h k0, cell_later h k1, cell_later h q1, cell_later h q2, cell_later h x1, cell_later h x2⟩
  go_cut [9] (fun s9 wx => s9 = .bool true ∧ Hid (Below w1.heap.size w1 wx))
  case first =>
    go_quiet ((go_at_call 53; with_reducible exact Calls.quiet_of_same (retS (HK1.out _))))
    go_wp2_with fail
    go_meet
    exact ⟨rfl, hid (bdrewN (Below.refl _ _) _)⟩
  case rest =>
  obtain ⟨rfl, HQ⟩ := hcut
  obtain ⟨hb0, hr0, k0, k1, q1, q2, x1, x2⟩ := HB1.out _ HQ.out
  have HB0 := hid hb0
  have HR0 := hid hr0
  clear hb0 hr0
  go_upto_region 8 with fail
  have K : Hid (∀ w', Below wc.heap.size wc w' → (w'.cell? ⟨w.heap.size, 0, none⟩ = some (.slice (some ⟨bc, oc, none⟩) C.length cc) ∧ w'.cell? ⟨w.heap.size, 1, none⟩ = some (.slice (some ⟨bg, og, none⟩) R.length cr) ∧ w'.cell? ⟨bc, oc + c, none⟩ = some (.int .i64 k) ∧ w'.cell? ⟨bg, og + r, none⟩ = some (.slice (some ⟨bx, ox, none⟩) row.length ci) ∧ w'.cell? ⟨bx, ox + k * 2, none⟩ = some (.int .i64 x) ∧ w'.cell? ⟨bx, ox + k * 2 + 1, none⟩ = some (.int .i64 y))) := hid fun w' h => ⟨cell_later h k0, cell_later h k1, cell_later h q1, cell_later h q2, cell_later h x1, cell_later h x2⟩
  clear k0 k1 q1 q2 x1 x2
  go_cut [10] (fun s10 wx => ∃ g, s10 = .pointer (some ⟨g, 0, none⟩) ∧ Hid (wx.heap[g]? = some (.cells #[.int .i64 x, .int .i64 y] 97 (0, 0)) ∧ Below wc.heap.size wc wx))
  case first =>
    go_region_held3 (fun w' => w'.cell? ⟨w.heap.size, 0, none⟩ = some (.slice (some ⟨bc, oc, none⟩) C.length cc) ∧ w'.cell? ⟨w.heap.size, 1, none⟩ = some (.slice (some ⟨bg, og, none⟩) R.length cr) ∧ w'.cell? ⟨bc, oc + c, none⟩ = some (.int .i64 k) ∧ w'.cell? ⟨bg, og + r, none⟩ = some (.slice (some ⟨bx, ox, none⟩) row.length ci) ∧ w'.cell? ⟨bx, ox + k * 2, none⟩ = some (.int .i64 x) ∧ w'.cell? ⟨bx, ox + k * 2 + 1, none⟩ = some (.int .i64 y)) (exact K.out _ (by repeat (first | with_reducible exact Below.refl _ _ | with_reducible refine bmore ?_ _ | with_reducible refine Below.setCell ?_ (by simp <;> omega) _ | with_reducible refine Below.drew ?_ | with_reducible refine bdrewN ?_ _))) (fail)
    all_goals
      go_wp2_with fail
      go_meet
      exact ⟨_, rfl, hid ⟨heapn _ _ _ rfl, by repeat (first | with_reducible exact Below.refl _ _ | with_reducible refine bmore ?_ _ | with_reducible refine Below.drew ?_ | with_reducible refine bdrewN ?_ _)⟩⟩
  case rest =>
    obtain ⟨g, rfl, HG⟩ := hcut
    obtain ⟨x0, y0, _, _⟩ := box2 HG.out.1
    obtain ⟨r0, r1, z0, z1⟩ := box2 (keepBox HG.out.2 HR0.out)
    have HW := hid (HB0.out.trans (HG.out.2.mono HB0.out.size))
    by_cases h8 : x = (c : Int)
    · have d2 : (x != (c : Int)) = false := by simp [h8]
      have HV2 := hid (HV0.out.trans (if_pos h8))
      clear h8
      go_wp2
      refine bodyPost_ret (v := .agg #[.int .i64 y, .int .i64 0]) (by simp [results, Try.results18, go_sem, r0, r1]) rfl ⟨by rw [HV2.out, HE0.out], (HW.out.setCell (by simp) _).setCell (by simp) _⟩
    · have d2 : (x != (c : Int)) = true := by simp [h8]
      have HV2 := hid (HV0.out.trans (if_neg h8))
      clear h8
      go_wp2
      refine bodyPost_ret (v := .agg #[.int .i64 (-1), .int .i64 0]) (by simp [results, Try.results18, go_sem, r0, r1]) rfl ⟨by rw [HV2.out, HE0.out], (HW.out.setCell (by simp) _).setCell (by simp) _⟩

theorem rPick_any (C : List Int) (R : List (List (Int × Int))) (r c : Int) (ac : Option Addr) (cc : Nat) (ar : Option Addr) (cr : Nat) (w : World) (hc : RdI w ac C) (hr : RdG w ar R) (hcl : C.length ≤ 1000000) (hrl : R.length ≤ 1000000) (hrr : ∀ q, q ∈ R → q.length ≤ 9223372036854775807) :
    Calls Try.prog 18 #[.agg #[.slice ac C.length cc, .slice ar R.length cr], .int .i64 r, .int .i64 c] w (RetB (.agg #[.int .i64 (pickV C R r c), .int .i64 (pickE C R r c)]) w) := by
  cases h : inRC C R r c with
  | false => exact rpick_out C R r c ac cc ar cr w hcl hrl h
  | true =>
    unfold inRC at h
    simp only [Bool.and_eq_true, decide_eq_true_eq] at h
    obtain ⟨⟨h1, h2⟩, h3, h4⟩ := h
    obtain ⟨r, rfl⟩ : ∃ k : Nat, r = (k : Int) := ⟨r.toNat, by omega⟩
    obtain ⟨c, rfl⟩ : ∃ k : Nat, c = (k : Int) := ⟨c.toNat, by omega⟩
    by_cases hk : 0 ≤ pkK C c ∧ pkK C c < (pkR R r).length
    · exact rpick_ok C R r c ac cc ar cr w hc hr hcl hrl hrr (by omega) (by omega) hk
    · exact rpick_bad C R r c ac cc ar cr w hc hr hcl hrl hrr (by omega) (by omega) hk
end Go.Proofs.Ytliajnflmddnoaa
