/- Contracts of the reference's look, Look and Spare. -/
import Derived.Test.YtliajnflmddnoaaQ8
namespace Go.Proofs.Ytliajnflmddnoaa
open Go.RowKit

theorem two_new (w : World) (c1 c2 : Array Value) (T1 T2 : TypeId) :
    Below w.heap.size w ((w.alloc (.cells c1 T1)).alloc (.cells c2 T2)) ∧ ((w.alloc (.cells c1 T1)).alloc (.cells c2 T2)).heap[w.heap.size]? = some (.cells c1 T1 (0, 0)) ∧ ((w.alloc (.cells c1 T1)).alloc (.cells c2 T2)).heap[w.heap.size + 1]? = some (.cells c2 T2 (0, 0)) :=
  ⟨bmore (bnew w _) _, by simp only [heap_alloc_if, World.size_alloc] <;> simp, by simp only [heap_alloc_if, World.size_alloc] <;> simp⟩

set_option maxRecDepth 100000 in
set_option maxHeartbeats 4000000 in
theorem rlook_any (L : Ld) (hR : RightL L) (r c : Nat) (hr : r < L.starts.length) (hc : (c : Int) < L.cols) (sa : Option Addr) (sc : Nat) (ca : Option Addr) (cc : Nat) (w : World) (hm : LdM w L sa sc ca cc) :
    Calls Try.prog 75 #[vL L sa sc ca cc, .int .i64 r, .int .i64 c] w (RetB (.int .i64 (backE L r c)) w) := by
  have HM := hid hm; clear hm
  have HB0 := hid (bnew w (.cells #[.int .i64 L.cols, .slice sa L.starts.length sc, .slice ca L.cells.length cc] 44))
  have HX0 := hid (heapn w (.cells #[.int .i64 L.cols, .slice sa L.starts.length sc, .slice ca L.cells.length cc] 44) _ rfl)
  obtain ⟨k0, k1, k2, _, _, _⟩ := box3 HX0.out
  obtain ⟨bs, os, hsa, hlts, h5⟩ := HM.out.rs.at hr
  have hst : L.starts.getD r (-1) = L.st r := rfl
  rw [hst] at h5
  have h5' := cell_later HB0.out h5
  have nr : (r : Int) < (L.starts.length : Int) := by omega
  subst hsa
  have hss := hR.start r hr
  have hroom := hR.room
  have hc0 := hR.col0
  have hc1 := hR.col1
  clear hst h5
  by_cases h1 : L.st r = -1
  · have HV : Hid (backE L r c = -1) := hid (by unfold backE; rw [if_pos (by omega)])
    have d1 : (L.st r == -1) = true := by simp [h1]
    clear h1 hss
    generalize L.st r = s at *
    go_enter Try.func75, Try.ntmps75
    go_wp2
    go_ret
    exact ⟨ret_int HV.out.symm, HB0.out⟩
  · have d1 : (L.st r == -1) = false := by simp [h1]
    obtain ⟨s, hs⟩ : ∃ s : Nat, L.st r = s := ⟨(L.st r).toNat, by omega⟩
    have hV : backE L r c = if (L.cell (s + c)).1 = r then (L.cell (s + c)).2 else -1 := by
      unfold backE lookN
      rw [if_neg (by omega), hs, Int.toNat_natCast]
    have hlt : s + c < L.cells.length := by omega
    obtain ⟨bc, oc, hca, hltc, h6, h7⟩ := HM.out.rc.at hlt
    have hcell : L.cells.getD (s + c) (-1, 0) = L.cell (s + c) := rfl
    rw [hcell] at h6 h7
    have h6 := cell_later HB0.out h6
    have h7 := cell_later HB0.out h7
    rw [hs] at h5' d1
    have HS2 := hid (show s ≤ 50000 ∧ c ≤ 50000 by omega)
    have hs2 := HS2.out.1
    have hcs2 := HS2.out.2
    have HV := hid hV
    have n3 : ((s + c : Nat) : Int) < (L.cells.length : Int) := by omega
    have hws0 : IntKind.i64.wrap ((s : Int) + (c : Int)) = (s : Int) + (c : Int) := wrapk (by omega)
    have hws1 : (0 : Int) ≤ (s : Int) + (c : Int) := by omega
    have hws2 : (s : Int) + (c : Int) < (L.cells.length : Int) := by omega
    have hws3 : ((s : Int) + (c : Int)).toNat = s + c := by omega
    clear hcell h1 hss hs hV hroom
    subst hca
    generalize L.cell (s + c) = p at *
    obtain ⟨x, y⟩ := p
    simp only at h6 h7 HV
    go_enter Try.func75, Try.ntmps75
    go_upto_region 3 with fail
    generalize w.alloc (.cells #[.int .i64 L.cols, .slice (some ⟨bs, os, none⟩) L.starts.length sc, .slice (some ⟨bc, oc, none⟩) L.cells.length cc] 44) = w1 at *
    have HS : Hid (∀ w', Below w1.heap.size w1 w' → (w'.cell? ⟨w.heap.size, 1, none⟩ = some (.slice (some ⟨bs, os, none⟩) L.starts.length sc) ∧ w'.cell? ⟨w.heap.size, 2, none⟩ = some (.slice (some ⟨bc, oc, none⟩) L.cells.length cc) ∧ w'.cell? ⟨bs, os + r, none⟩ = some (.int .i64 s) ∧ w'.cell? ⟨bc, oc + (s + c) * 2, none⟩ = some (.int .i64 x) ∧ w'.cell? ⟨bc, oc + (s + c) * 2 + 1, none⟩ = some (.int .i64 y))) := hid fun w' h => ⟨cell_later h k1, cell_later h k2, cell_later h h5', cell_later h h6, cell_later h h7⟩
    go_cut [7] (fun s7 wx => ∃ g, s7 = .pointer (some ⟨g, 0, none⟩) ∧ Hid (wx.heap[g]? = some (.cells #[.int .i64 x, .int .i64 y] 99 (0, 0)) ∧ Below w1.heap.size w1 wx))
    case first =>
      go_region_held3 (fun w' => w'.cell? ⟨w.heap.size, 1, none⟩ = some (.slice (some ⟨bs, os, none⟩) L.starts.length sc) ∧ w'.cell? ⟨w.heap.size, 2, none⟩ = some (.slice (some ⟨bc, oc, none⟩) L.cells.length cc) ∧ w'.cell? ⟨bs, os + r, none⟩ = some (.int .i64 s) ∧ w'.cell? ⟨bc, oc + (s + c) * 2, none⟩ = some (.int .i64 x) ∧ w'.cell? ⟨bc, oc + (s + c) * 2 + 1, none⟩ = some (.int .i64 y)) (exact HS.out _ (by repeat (first | exact Below.refl _ _ | refine bmore ?_ _ | refine Below.setCell ?_ (by simp <;> omega) _ | refine Below.drew ?_))) (fail)
      all_goals
        go_wp2_with fail
        go_meet
        first
          | exact ⟨_, rfl, hid ⟨heapn _ _ _ rfl, (bnew _ _).drew⟩⟩
          | exact ⟨_, rfl, hid ⟨heapn _ _ _ rfl, (bdrew _).step (bnew _ _)⟩⟩
    case rest =>
      obtain ⟨g, rfl, HG⟩ := hcut
      obtain ⟨x0, y0, _, _⟩ := box2 HG.out.1
      clear h5' h6 h7 hws0 hws1 hws2 hws3 k0 k1 k2 HS
      by_cases h8 : x = (r : Int)
      · have d2 : (x != (r : Int)) = false := by simp [h8]
        have HV2 := hid (HV.out.trans (if_pos h8))
        clear h8
        go_wp2
        go_ret
        exact ⟨ret_int HV2.out.symm, HB0.out.step HG.out.2⟩
      · have d2 : (x != (r : Int)) = true := by simp [h8]
        have HV2 := hid (HV.out.trans (if_neg h8))
        clear h8
        go_wp2
        go_ret
        exact ⟨ret_int HV2.out.symm, HB0.out.step HG.out.2⟩

set_option maxRecDepth 100000 in
set_option maxHeartbeats 4000000 in
theorem rLook_bad (L : Ld) (hf : Fit L) (r c : Int) (sa : Option Addr) (sc : Nat) (ca : Option Addr) (cc : Nat) (w : World) (hm : LdM w L sa sc ca cc) (hE : chkL L ≠ 0) :
    Calls Try.prog 33 #[vL L sa sc ca cc, .int .i64 r, .int .i64 c] w (RetB (.agg #[.int .i64 (lookV L r c), .int .i64 (lookE L r c)]) w) := by
  have HM := hid hm; clear hm
  obtain ⟨hb0, hx0, hr0⟩ := two_new w #[.int .i64 L.cols, .slice sa L.starts.length sc, .slice ca L.cells.length cc] #[.int .i64 0, .int .i64 0] 44 38
  have e : lookE L r c = chkL L ∧ lookV L r c = 0 := by
    have e1 : hasE L r = chkL L := by unfold hasE; rw [if_neg hE]
    have e2 : lookE L r c = chkL L := by unfold lookE; rw [e1, if_neg hE]
    exact ⟨e2, by unfold lookV; rw [e2, if_neg hE]⟩
  rw [e.1, e.2]
  have hne : (chkL L != 0) = true := by rw [bne_iff_ne]; exact hE
  clear e hE
  have HC := hid (rcheckL_any L hf sa sc ca cc)
  have HB0 := hid hb0
  have HX0 := hid hx0
  have HR0 := hid hr0
  obtain ⟨k0, k1, k2, _, _, _⟩ := box3 hx0
  clear hb0 hx0 hr0
  go_enter Try.func33, Try.ntmps33
  go_wp2_with (go_at_call 37; (with_reducible refine (HC.out _ (HM.out.below HB0.out)).mono ?_); rintro e w1 ⟨rfl, hb⟩; have HB := hid (HB0.out.step hb); obtain ⟨r0, r1, z0, z1⟩ := box2 (keepBox hb HR0.out); clear hb)
  refine bodyPost_ret (v := .agg #[.int .i64 0, .int .i64 (chkL L)]) (by simp [results, Try.results33, go_sem, r0, r1]) rfl ⟨rfl, (HB.out.setCell (by simp) _).setCell (by simp) _⟩

set_option maxRecDepth 100000 in
set_option maxHeartbeats 8000000 in
theorem rLook_none (L : Ld) (hf : Fit L) (r c : Int) (sa : Option Addr) (sc : Nat) (ca : Option Addr) (cc : Nat) (w : World) (hm : LdM w L sa sc ca cc) (hE : chkL L = 0) (hL : lookE L r c ≠ 0) :
    Calls Try.prog 33 #[vL L sa sc ca cc, .int .i64 r, .int .i64 c] w (RetB (.agg #[.int .i64 (lookV L r c), .int .i64 (lookE L r c)]) w) := by
  have HM := hid hm; clear hm
  obtain ⟨hb0, hx0, hr0⟩ := two_new w #[.int .i64 L.cols, .slice sa L.starts.length sc, .slice ca L.cells.length cc] #[.int .i64 0, .int .i64 0] 44 38
  have hR := chkL_ok hE
  have e2 : lookV L r c = 0 := by unfold lookV; rw [if_neg hL]
  have e1 : lookE L r c = 5 := by
    unfold lookE hasE at hL ⊢
    rw [if_pos hE] at hL ⊢
    by_cases q : 0 ≤ r ∧ r < L.starts.length ∧ 0 ≤ L.st r.toNat
    · rw [if_pos q] at hL ⊢
      rw [if_pos rfl] at hL ⊢
      by_cases q2 : 0 ≤ c ∧ c < L.cols
      · rw [if_pos q2] at hL; exact absurd rfl hL
      · rw [if_neg q2]
    · rw [if_neg q]
      rfl
  have hbad : ¬ ((0 ≤ r ∧ r < L.starts.length ∧ 0 ≤ L.st r.toNat) ∧ (0 ≤ c ∧ c < L.cols)) := by
    rintro ⟨q, q2⟩
    unfold lookE hasE at hL
    rw [if_pos hE, if_pos q, if_pos rfl, if_pos q2] at hL
    exact hL rfl
  rw [e1, e2]
  have HC : Hid (∀ w, LdM w L sa sc ca cc → Calls Try.prog 37 #[vL L sa sc ca cc] w (RetB (.int .i64 0) w)) := hid fun w h => by
    have := rcheckL_any L hf sa sc ca cc w h
    rwa [hE] at this
  have hcol0 := hR.col0
  have hcol1 := hR.col1
  have hrows := hR.rows
  have HST := hid (fun i hi => hR.start i hi)
  have hR1 := fun w => in_any r 0 ((L.starts.length : Int) - 1) w
  have hC1 := fun w => in_any c 0 (L.cols - 1) w
  rw [in_rows] at hR1
  have hin : inB c 0 (L.cols - 1) = (decide (0 ≤ c) && decide (c < L.cols)) := by
    unfold inB
    rw [Bool.eq_iff_iff]
    simp
    omega
  rw [hin] at hC1
  have HB0 := hid hb0
  have HX0 := hid hx0
  have HR0 := hid hr0
  obtain ⟨k0, k1, k2, _, _, _⟩ := box3 hx0
  clear hb0 hx0 hr0 hE hL hR e1 e2 hin
  cases c1 : (decide (0 ≤ r) && decide (r < (L.starts.length : Int))) with
  | false =>
    rw [c1] at hR1
    have HR1 := hid hR1
    have HC1 := hid hC1
    clear hR1 hC1 c1 hbad
    generalize (decide (0 ≤ c) && decide (c < L.cols)) = q at *
    go_enter Try.func33, Try.ntmps33
    go_wp2_with (first
      | (go_at_call 37; (with_reducible refine (HC.out _ (HM.out.below HB0.out)).mono ?_); rintro e w1 ⟨rfl, hb⟩; have HB := hid (HB0.out.step hb); obtain ⟨r0, r1, z0, z1⟩ := box2 (keepBox hb HR0.out); obtain ⟨k0, k1, k2, _, _, _⟩ := box3 (keepBox hb HX0.out); clear hb)
      | (go_at_call 53; (with_reducible refine (HR1.out _).mono ?_); rintro e w' ⟨rfl, rfl⟩)
      | (go_at_call 53; (with_reducible refine (HC1.out _).mono ?_); rintro e w' ⟨rfl, rfl⟩))
    refine bodyPost_ret (v := .agg #[.int .i64 0, .int .i64 5]) (by simp [results, Try.results33, go_sem, r0, r1]) rfl ⟨rfl, (HB.out.setCell (by simp) _).setCell (by simp) _⟩
  | true =>
    rw [c1] at hR1
    have HR1 := hid hR1
    simp only [Bool.and_eq_true, decide_eq_true_eq] at c1
    cases c2 : (decide (0 ≤ c) && decide (c < L.cols)) with
    | false =>
      rw [c2] at hC1
      have HC1 := hid hC1
      clear hR1 hC1 c1 c2 hbad
      go_enter Try.func33, Try.ntmps33
      go_wp2_with (first
        | (go_at_call 37; (with_reducible refine (HC.out _ (HM.out.below HB0.out)).mono ?_); rintro e w1 ⟨rfl, hb⟩; have HB := hid (HB0.out.step hb); obtain ⟨r0, r1, z0, z1⟩ := box2 (keepBox hb HR0.out); obtain ⟨k0, k1, k2, _, _, _⟩ := box3 (keepBox hb HX0.out); clear hb)
        | (go_at_call 53; (with_reducible refine (HR1.out _).mono ?_); rintro e w' ⟨rfl, rfl⟩)
        | (go_at_call 53; (with_reducible refine (HC1.out _).mono ?_); rintro e w' ⟨rfl, rfl⟩))
      refine bodyPost_ret (v := .agg #[.int .i64 0, .int .i64 5]) (by simp [results, Try.results33, go_sem, r0, r1]) rfl ⟨rfl, (HB.out.setCell (by simp) _).setCell (by simp) _⟩
    | true =>
      rw [c2] at hC1
      have HC1 := hid hC1
      simp only [Bool.and_eq_true, decide_eq_true_eq] at c2
      obtain ⟨r, rfl⟩ : ∃ k : Nat, r = (k : Int) := ⟨r.toNat, by omega⟩
      have hr : r < L.starts.length := by omega
      have hst : L.st r = -1 := by
        rw [Int.toNat_natCast] at hbad
        have := HST.out r hr
        omega
      obtain ⟨bs, os, hsa, hlts, h5⟩ := HM.out.rs.at hr
      have hst' : L.starts.getD r (-1) = L.st r := rfl
      rw [hst', hst] at h5
      have H5 := hid (cell_later HB0.out h5)
      have nr : (r : Int) < (L.starts.length : Int) := by omega
      subst hsa
      clear hR1 hC1 c1 c2 hbad h5 hst' hst hlts
      go_enter Try.func33, Try.ntmps33
      go_wp2_with (first
        | (go_at_call 37; (with_reducible refine (HC.out _ (HM.out.below HB0.out)).mono ?_); rintro e w1 ⟨rfl, hb⟩; have HB := hid (HB0.out.step hb); obtain ⟨r0, r1, z0, z1⟩ := box2 (keepBox hb HR0.out); obtain ⟨k0, k1, k2, _, _, _⟩ := box3 (keepBox hb HX0.out); have h5 := cell_later hb H5.out; clear hb)
        | (go_at_call 53; (with_reducible refine (HR1.out _).mono ?_); rintro e w' ⟨rfl, rfl⟩)
        | (go_at_call 53; (with_reducible refine (HC1.out _).mono ?_); rintro e w' ⟨rfl, rfl⟩))
      refine bodyPost_ret (v := .agg #[.int .i64 0, .int .i64 5]) (by simp [results, Try.results33, go_sem, r0, r1]) rfl ⟨rfl, (HB.out.setCell (by simp) _).setCell (by simp) _⟩

set_option maxRecDepth 100000 in
set_option maxHeartbeats 8000000 in
theorem rLook_ok (L : Ld) (hf : Fit L) (r c : Int) (sa : Option Addr) (sc : Nat) (ca : Option Addr) (cc : Nat) (w : World) (hm : LdM w L sa sc ca cc) (hE : chkL L = 0) (hL : lookE L r c = 0) :
    Calls Try.prog 33 #[vL L sa sc ca cc, .int .i64 r, .int .i64 c] w (RetB (.agg #[.int .i64 (lookV L r c), .int .i64 (lookE L r c)]) w) := by
  have HM := hid hm; clear hm
  obtain ⟨hb0, hx0, hr0⟩ := two_new w #[.int .i64 L.cols, .slice sa L.starts.length sc, .slice ca L.cells.length cc] #[.int .i64 0, .int .i64 0] 44 38
  have hR := chkL_ok hE
  have hgood : (0 ≤ r ∧ r < L.starts.length ∧ 0 ≤ L.st r.toNat) ∧ (0 ≤ c ∧ c < L.cols) := by
    unfold lookE hasE at hL
    rw [if_pos hE] at hL
    by_cases q : 0 ≤ r ∧ r < L.starts.length ∧ 0 ≤ L.st r.toNat
    · rw [if_pos q, if_pos rfl] at hL
      by_cases q2 : 0 ≤ c ∧ c < L.cols
      · exact ⟨q, q2⟩
      · rw [if_neg q2] at hL; cases hL
    · rw [if_neg q] at hL; cases hL
  have e2 : lookV L r c = lookN L r.toNat c.toNat := by unfold lookV; rw [if_pos hL]
  rw [hL, e2]
  obtain ⟨⟨q1, q2, q3⟩, q4, q5⟩ := hgood
  obtain ⟨r, rfl⟩ : ∃ k : Nat, r = (k : Int) := ⟨r.toNat, by omega⟩
  obtain ⟨c, rfl⟩ : ∃ k : Nat, c = (k : Int) := ⟨c.toNat, by omega⟩
  rw [Int.toNat_natCast] at q3 ⊢
  rw [Int.toNat_natCast]
  have hr : r < L.starts.length := by omega
  have hbk : backE L r c = lookN L r c := by unfold backE; rw [if_neg (by omega)]
  have HC : Hid (∀ w, LdM w L sa sc ca cc → Calls Try.prog 37 #[vL L sa sc ca cc] w (RetB (.int .i64 0) w)) := hid fun w h => by
    have := rcheckL_any L hf sa sc ca cc w h
    rwa [hE] at this
  have HL : Hid (∀ w, LdM w L sa sc ca cc → Calls Try.prog 75 #[vL L sa sc ca cc, .int .i64 r, .int .i64 c] w (RetB (.int .i64 (lookN L r c)) w)) := hid fun w h => by
    have := rlook_any L hR r c hr q5 sa sc ca cc w h
    rwa [hbk] at this
  have hcol0 := hR.col0
  have hcol1 := hR.col1
  have hrows := hR.rows
  have hR1 := fun w => in_any (r : Int) 0 ((L.starts.length : Int) - 1) w
  have hC1 := fun w => in_any (c : Int) 0 (L.cols - 1) w
  rw [show inB (r : Int) 0 ((L.starts.length : Int) - 1) = true from decide_eq_true (by omega)] at hR1
  rw [show inB (c : Int) 0 (L.cols - 1) = true from decide_eq_true (by omega)] at hC1
  have HR1 := hid hR1
  have HC1 := hid hC1
  obtain ⟨bs, os, hsa, hlts, h5⟩ := HM.out.rs.at hr
  have hst' : L.starts.getD r (-1) = L.st r := rfl
  rw [hst'] at h5
  have H5 := hid (cell_later hb0 h5)
  have nr : (r : Int) < (L.starts.length : Int) := by omega
  have d1 : (L.st r == -1) = false := by rw [beq_eq_false_iff_ne]; omega
  subst hsa
  have HB0 := hid hb0
  have HX0 := hid hx0
  have HR0 := hid hr0
  obtain ⟨k0, k1, k2, _, _, _⟩ := box3 hx0
  clear hb0 hx0 hr0 hE hL hR e2 hR1 hC1 h5 hst' hlts hbk q1 q4 q5
  generalize L.st r = s at *
  generalize lookN L r c = x at *
  go_enter Try.func33, Try.ntmps33
  go_wp2_with (first
    | (go_at_call 37; (with_reducible refine (HC.out _ (HM.out.below HB0.out)).mono ?_); rintro e w1 ⟨rfl, hb⟩; have HB := hid (HB0.out.step hb); have HR1' := hid (keepBox hb HR0.out); obtain ⟨k0, k1, k2, _, _, _⟩ := box3 (keepBox hb HX0.out); have h5 := cell_later hb H5.out; clear hb)
    | (go_at_call 53; (with_reducible refine (HR1.out _).mono ?_); rintro e w' ⟨rfl, rfl⟩)
    | (go_at_call 53; (with_reducible refine (HC1.out _).mono ?_); rintro e w' ⟨rfl, rfl⟩)
    | (go_at_call 75; (with_reducible refine (HL.out _ (HM.out.below HB.out)).mono ?_); rintro e w2 ⟨rfl, hb⟩; have HB := hid (HB.out.step hb); obtain ⟨r0, r1, z0, z1⟩ := box2 (keepBox hb HR1'.out); clear hb))
  refine bodyPost_ret (v := .agg #[.int .i64 x, .int .i64 0]) (by simp [results, Try.results33, go_sem, r0, r1]) rfl ⟨rfl, (HB.out.setCell (by simp) _).setCell (by simp) _⟩

theorem rLook_any (L : Ld) (hf : Fit L) (r c : Int) (sa : Option Addr) (sc : Nat) (ca : Option Addr) (cc : Nat) (w : World) (hm : LdM w L sa sc ca cc) :
    Calls Try.prog 33 #[vL L sa sc ca cc, .int .i64 r, .int .i64 c] w (RetB (.agg #[.int .i64 (lookV L r c), .int .i64 (lookE L r c)]) w) := by
  by_cases hE : chkL L = 0
  · by_cases hL : lookE L r c = 0
    · exact rLook_ok L hf r c sa sc ca cc w hm hE hL
    · exact rLook_none L hf r c sa sc ca cc w hm hE hL
  · exact rLook_bad L hf r c sa sc ca cc w hm hE

set_option maxRecDepth 100000 in
set_option maxHeartbeats 4000000 in
theorem rSpare_any (L : Ld) (hf : Fit L) (sa : Option Addr) (sc : Nat) (ca : Option Addr) (cc : Nat) (w : World) (hm : LdM w L sa sc ca cc) :
    Calls Try.prog 36 #[vL L sa sc ca cc] w (RetB (.agg #[.int .i64 (spareV L), .int .i64 (chkL L)]) w) := by
  have HM := hid hm; clear hm
  obtain ⟨hb0, hx0, hr0⟩ := two_new w #[.int .i64 L.cols, .slice sa L.starts.length sc, .slice ca L.cells.length cc] #[.int .i64 0, .int .i64 0] 44 38
  have HC := hid (rcheckL_any L hf sa sc ca cc)
  have hfc := hf.c
  clear hf
  have HB0 := hid hb0
  have HX0 := hid hx0
  have HR0 := hid hr0
  obtain ⟨k0, k1, k2, _, _, _⟩ := box3 hx0
  clear hb0 hx0 hr0
  by_cases hE : chkL L = 0
  · have HV : Hid (spareV L = (L.cells.countP noRow : Nat)) := hid (by unfold spareV; rw [if_pos hE])
    rw [hE] at HC ⊢
    rw [HV.out]
    clear hE HV
    go_enter Try.func36, Try.ntmps36
    go_wp2_with (go_at_call 37; (with_reducible refine (HC.out _ (HM.out.below HB0.out)).mono ?_); rintro e w1 ⟨rfl, hb⟩; have HB := hid (HB0.out.step hb); have HR1 := hid (keepBox hb HR0.out); have HX1 := hid (keepBox hb HX0.out); obtain ⟨k0, k1, k2, _, _, _⟩ := box3 HX1.out; clear hb)
    go_loop [4, 5] (fun s4 s5 => ∃ k : Nat, k ≤ L.cells.length ∧ s5 = .int .i64 k ∧ s4 = .int .i64 (cntN L.cells k : Nat)) (fun _ s5 => L.cells.length - (intOf s5).toNat)
    case atStart => exact ⟨0, Nat.zero_le _, rfl, rfl⟩
    case round =>
      obtain ⟨k, hk, rfl, rfl⟩ := hrel
      by_cases hlt : k < L.cells.length
      · have nk : (k : Int) < (L.cells.length : Int) := by omega
        obtain ⟨b, off, hca, hltb, h1, h2⟩ := (HM.out.rc.below HB.out).at hlt
        have hs := cntN_succ hlt
        have hle := cntN_le L.cells k
        rw [← getD_in (d := (-1, 0)) hlt] at hs
        generalize L.cells.getD k (-1, 0) = p at *
        obtain ⟨x, y⟩ := p
        have hs2 : cntN L.cells (k + 1) = if (x == -1) = true then cntN L.cells k + 1 else cntN L.cells k := hs
        have HS := hid hs2
        simp only at h1 h2
        clear hs hs2
        subst hca
        by_cases hx : x = -1
        · have d1 : (x == -1) = true := by simp [hx]
          have HN := hid (HS.out.trans (if_pos d1))
          clear hx
          go_wp2
          go_round
          case rel => exact ⟨k + 1, by omega, by go_num, by rw [HN.out]; go_num⟩
          case measure => simp [intOf]; omega
        · have d1 : (x == -1) = false := by simp [hx]
          have HN := hid (HS.out.trans (if_neg (by rw [d1]; simp)))
          clear hx
          go_wp2
          go_round
          case rel => exact ⟨k + 1, by omega, by go_num, by rw [HN.out]⟩
          case measure => simp [intOf]; omega
      · have hkl : k = L.cells.length := by omega
        subst hkl
        obtain ⟨r0, r1, z0, z1⟩ := box2 HR1.out
        have HCN : Hid (cntN L.cells L.cells.length = L.cells.countP noRow) := hid (by unfold cntN; rw [List.take_of_length_le (Nat.le_refl _)])
        go_wp2
        refine bodyPost_ret (v := .agg #[.int .i64 (cntN L.cells L.cells.length : Nat), .int .i64 0]) (by simp [results, Try.results36, go_sem, r0, r1]) rfl ⟨by rw [HCN.out], (HB.out.setCell (by simp) _).setCell (by simp) _⟩
  · have HV : Hid (spareV L = 0) := hid (by unfold spareV; rw [if_neg hE])
    have hne : (chkL L != 0) = true := by rw [bne_iff_ne]; exact hE
    clear hE
    rw [HV.out]
    go_enter Try.func36, Try.ntmps36
    go_wp2_with (go_at_call 37; (with_reducible refine (HC.out _ (HM.out.below HB0.out)).mono ?_); rintro e w1 ⟨rfl, hb⟩; have HB := hid (HB0.out.step hb); obtain ⟨r0, r1, z0, z1⟩ := box2 (keepBox hb HR0.out); clear hb)
    refine bodyPost_ret (v := .agg #[.int .i64 0, .int .i64 (chkL L)]) (by simp [results, Try.results36, go_sem, r0, r1]) rfl ⟨rfl, (HB.out.setCell (by simp) _).setCell (by simp) _⟩
end Go.Proofs.Ytliajnflmddnoaa
