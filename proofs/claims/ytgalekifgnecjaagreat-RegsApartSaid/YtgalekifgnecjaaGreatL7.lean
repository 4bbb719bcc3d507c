/- RegsApart, walked. -/
import Derived.Test.YtgalekifgnecjaaGreatL5
import Derived.BigQuiet
namespace Go.Proofs.YtgalekifgnecjaaGreat
open Go.RowKit Go.Shelf
attribute [local go_sem] Oper.semAt_some
attribute [local irreducible] wpStill
theorem few_len {u : UntN} (h : fewB u = true) : u.code.length ≤ 610 ∧ u.guards.length ≤ 50 := by
  unfold fewB at h
  simp at h
  omega
theorem homes_len {h t : List Int} (hh : homesB h t = true) : h.length ≤ 220 ∧ t.length ≤ 620 := by
  unfold homesB at hh
  simp at hh
  omega
/-- The colours, as the statement asks for them. -/
structure ApL (cl : List (Int × Int)) (n : Nat) (L : List Int) (m : Int) : Prop where
  len : L.length = n
  mx : m ≤ (n : Int)
  so : SortedP cl
  pr : ∀ p ∈ cl, 0 ≤ p.1 ∧ p.1 < p.2 ∧ p.2 < (n : Int)
  col : ∀ i (hi : i < L.length), 0 ≤ L[i] ∧ L[i] < m
  ne : ∀ p ∈ cl, ∃ (h1 : p.1.toNat < L.length) (h2 : p.2.toNat < L.length), L[p.1.toNat] ≠ L[p.2.toNat]
  less : ∀ (i j : Nat) (hi : i < L.length), (j : Int) < L[i] → (cl.any fun p => p.2 == (i : Int) && L.getD p.1.toNat 0 == (j : Int)) = true
theorem apart_law {u : UntN} (hw : writB u = true) : ApL (clashL u) u.slots.toNat (colsI (clashL u) u.slots.toNat) (manyL (colsTo (clashL u) u.slots.toNat)) := by
  have hargs := writ_args hw
  have hg := clashL_good hw
  have hpr : ∀ p ∈ clashL u, 0 ≤ p.1 ∧ p.1 < p.2 ∧ p.2 < (u.slots.toNat : Int) := fun p hp => by have := hg.2 p hp; omega
  have hlen := colsI_length (clashL u) u.slots.toNat
  refine ⟨hlen, manyL_cols _ _, hg.1, hpr, fun i hi => cols_in (by rw [hlen] at hi; exact hi), fun p hp => cols_ne hpr hp, fun i j hi hj => ?_⟩
  obtain ⟨t, ht, hm, h, e⟩ := cols_less (by rw [hlen] at hi; exact hi) hj
  rw [List.any_eq_true]
  refine ⟨_, hm, ?_⟩
  rw [Bool.and_eq_true]
  refine ⟨by simp, ?_⟩
  simp only [Int.toNat_natCast, List.getD_eq_getElem?_getD, List.getElem?_eq_getElem h, Option.getD_some, e]
  simp
theorem rdI2 {W : World} {b o : Nat} {x y : Int} (h0 : W.cell? ⟨b, o, none⟩ = some (.int .i64 x)) (h1 : W.cell? ⟨b, o + 1, none⟩ = some (.int .i64 y)) : RdI W (some ⟨b, o, none⟩) [x, y] := by
  have hlt : b < W.heap.size := by
    unfold World.cell? at h0
    cases hh : W.heap[b]? with
    | none => simp [hh] at h0
    | some o => exact lt_of_heap hh
  intro i hi
  have hi2 : i < 2 := hi
  rcases (show i = 0 ∨ i = 1 by omega) with rfl | rfl
  · exact ⟨b, o, rfl, hlt, h0⟩
  · exact ⟨b, o, rfl, hlt, h1⟩
theorem cmp_lt {p q : Int × Int} (h : ltP p q = true) : cmpLs [p.1, p.2] [q.1, q.2] < 0 := by
  unfold ltP at h
  simp only [Bool.or_eq_true, Bool.and_eq_true, decide_eq_true_eq, beq_iff_eq] at h
  unfold cmpLs
  by_cases e : p.1 = q.1
  · rw [if_pos e]
    unfold cmpLs
    rw [if_neg (by omega)]
    unfold cmpI
    rw [if_pos (by omega)]
    decide
  · rw [if_neg e]
    unfold cmpI
    rw [if_pos (by omega)]
    decide
/-- What RegsApart keeps. -/
structure ApI (w : World) (u v : UntN) (h t : List Int) (ca : Option Addr) (cc : Nat) (ga : Option Addr) (gc : Nat) (da : Option Addr) (dc : Nat) (ea : Option Addr) (ec : Nat) (ha : Option Addr) (hc : Nat) (ta : Option Addr) (tc : Nat) (W : World) : Prop where
  hb : Below w.heap.size w W
  hu : W.heap[w.heap.size]? = some (oU u ca cc ga gc)
  hv : W.heap[w.heap.size + 1]? = some (oU v da dc ea ec)
  hh : W.heap[w.heap.size + 1 + 1]? = some (.cells #[.slice ha h.length hc, .slice ta t.length tc] 30)
theorem ApI.below {w W W' : World} {u v : UntN} {h t : List Int} {ca : Option Addr} {cc : Nat} {ga : Option Addr} {gc : Nat} {da : Option Addr} {dc : Nat} {ea : Option Addr} {ec : Nat} {ha : Option Addr} {hc : Nat} {ta : Option Addr} {tc : Nat} (s : ApI w u v h t ca cc ga gc da dc ea ec ha hc ta tc W) (hb : Below W.heap.size W W') : ApI w u v h t ca cc ga gc da dc ea ec ha hc ta tc W' :=
  ⟨s.hb.step hb, keepBox hb s.hu, keepBox hb s.hv, keepBox hb s.hh⟩
set_option maxRecDepth 100000 in
set_option maxHeartbeats 60000000 in
theorem apart_any (u v : UntN) (h t : List Int) (ca : Option Addr) (cc : Nat) (ga : Option Addr) (gc : Nat) (da : Option Addr) (dc : Nat) (ea : Option Addr) (ec : Nat) (ha : Option Addr) (hc : Nat) (ta : Option Addr) (tc : Nat) (w : World)
    (mu : UnM w u ca cc ga gc) (mv : UnM w v da dc ea ec) (mh : RdI w ha h) (mt : RdI w ta t) (hvb : ∀ y ∈ v.code, -9223372036854775808 ≤ y.b ∧ y.b ≤ 9223372036854775807) (hwf : ∀ x ∈ h, -9223372036854775808 ≤ x ∧ x ≤ 9223372036854775807) :
    Calls Tryz.prog 5 #[vU u ca cc ga gc, vU v da dc ea ec, vHm ha h hc ta t tc] w (RetB (.bool true) w) := by
  have HF1 := hid (fun w => few_any u ca cc ga gc w)
  have HF2 := hid (fun w => few_any v da dc ea ec w)
  have HF3 := hid (fun w => homes_any h t ha hc ta tc w)
  have HI := hid (show ApI w u v h t ca cc ga gc da dc ea ec ha hc ta tc (((w.alloc (oU u ca cc ga gc)).alloc (oU v da dc ea ec)).alloc (.cells #[.slice ha h.length hc, .slice ta t.length tc] 30)) from
    ⟨((bnew _ _).step (bnew _ _)).step (bnew _ _), keepBox (bnew _ _) (keepBox (bnew _ _) (heapn _ _ _ rfl)), keepBox (bnew _ _) (heapn _ _ _ (by simp)), heapn _ _ _ (by simp)⟩)
  have HMU := hid mu; have HMV := hid mv; have HMH := hid mh; have HMT := hid mt; have HVB := hid hvb; have HWF := hid hwf
  clear mu mv mh mt hvb hwf
  obtain ⟨wa, hwa⟩ : ∃ wa, wa = ((w.alloc (oU u ca cc ga gc)).alloc (oU v da dc ea ec)).alloc (.cells #[.slice ha h.length hc, .slice ta t.length tc] 30) := ⟨_, rfl⟩
  rw [← hwa] at HI
  go_enter Tryz.func5, Tryz.ntmps5
  go_upto_region 1 with fail
  rw [← hwa]
  clear hwa
  obtain ⟨k0, k1, k2, k3, k4, k5, k6⟩ := box7 HI.out.hu
  cases e1 : fewB u with
  | false =>
    rw [e1] at HF1
    clear e1
    go_wp2_with (first
      | (go_at_call 11; (with_reducible refine (HF1.out _).mono ?_); rintro e w2 ⟨rfl, hb⟩; have HB2 := hid (HI.out.below hb); have v0 := (cell_of_row _ _ 0 _ _ _ HB2.out.hv).trans rfl; have v1 := (cell_of_row _ _ 1 _ _ _ HB2.out.hv).trans rfl; have v2 := (cell_of_row _ _ 2 _ _ _ HB2.out.hv).trans rfl; have v3 := (cell_of_row _ _ 3 _ _ _ HB2.out.hv).trans rfl; have v4 := (cell_of_row _ _ 4 _ _ _ HB2.out.hv).trans rfl; have v5 := (cell_of_row _ _ 5 _ _ _ HB2.out.hv).trans rfl; have v6 := (cell_of_row _ _ 6 _ _ _ HB2.out.hv).trans rfl; clear hb)
      | (go_at_call 11; (with_reducible refine (HF2.out _).mono ?_); rintro e w3 ⟨rfl, hb⟩; have HB3 := hid (HB2.out.below hb); have h0 := (cell_of_row _ _ 0 _ _ _ HB3.out.hh).trans rfl; have h1 := (cell_of_row _ _ 1 _ _ _ HB3.out.hh).trans rfl; clear hb)
      | (go_at_call 17; (with_reducible refine (HF3.out _).mono ?_); rintro e w4 ⟨rfl, hb⟩; have HB4 := hid (HB3.out.below hb); clear hb)
      | (go_at_call 12; (with_reducible refine (sanity_any _).mono ?_); rintro e w9 ⟨rfl, hb⟩; have HBZ := hid (HB2.out.hb.step hb); clear hb))
    go_ret
    exact ⟨rfl, HBZ.out⟩
  | true =>
  have HE1 := hid e1
  rw [e1] at HF1
  clear e1
  cases e2 : fewB v with
  | false =>
    rw [e2] at HF2
    clear e2
    go_wp2_with (first
      | (go_at_call 11; (with_reducible refine (HF1.out _).mono ?_); rintro e w2 ⟨rfl, hb⟩; have HB2 := hid (HI.out.below hb); have v0 := (cell_of_row _ _ 0 _ _ _ HB2.out.hv).trans rfl; have v1 := (cell_of_row _ _ 1 _ _ _ HB2.out.hv).trans rfl; have v2 := (cell_of_row _ _ 2 _ _ _ HB2.out.hv).trans rfl; have v3 := (cell_of_row _ _ 3 _ _ _ HB2.out.hv).trans rfl; have v4 := (cell_of_row _ _ 4 _ _ _ HB2.out.hv).trans rfl; have v5 := (cell_of_row _ _ 5 _ _ _ HB2.out.hv).trans rfl; have v6 := (cell_of_row _ _ 6 _ _ _ HB2.out.hv).trans rfl; clear hb)
      | (go_at_call 11; (with_reducible refine (HF2.out _).mono ?_); rintro e w3 ⟨rfl, hb⟩; have HB3 := hid (HB2.out.below hb); have h0 := (cell_of_row _ _ 0 _ _ _ HB3.out.hh).trans rfl; have h1 := (cell_of_row _ _ 1 _ _ _ HB3.out.hh).trans rfl; clear hb)
      | (go_at_call 17; (with_reducible refine (HF3.out _).mono ?_); rintro e w4 ⟨rfl, hb⟩; have HB4 := hid (HB3.out.below hb); clear hb)
      | (go_at_call 12; (with_reducible refine (sanity_any _).mono ?_); rintro e w9 ⟨rfl, hb⟩; have HBZ := hid (HB3.out.hb.step hb); clear hb))
    go_ret
    exact ⟨rfl, HBZ.out⟩
  | true =>
  have HE2 := hid e2
  rw [e2] at HF2
  clear e2
  cases e3 : homesB h t with
  | false =>
    rw [e3] at HF3
    clear e3
    go_wp2_with (first
      | (go_at_call 11; (with_reducible refine (HF1.out _).mono ?_); rintro e w2 ⟨rfl, hb⟩; have HB2 := hid (HI.out.below hb); have v0 := (cell_of_row _ _ 0 _ _ _ HB2.out.hv).trans rfl; have v1 := (cell_of_row _ _ 1 _ _ _ HB2.out.hv).trans rfl; have v2 := (cell_of_row _ _ 2 _ _ _ HB2.out.hv).trans rfl; have v3 := (cell_of_row _ _ 3 _ _ _ HB2.out.hv).trans rfl; have v4 := (cell_of_row _ _ 4 _ _ _ HB2.out.hv).trans rfl; have v5 := (cell_of_row _ _ 5 _ _ _ HB2.out.hv).trans rfl; have v6 := (cell_of_row _ _ 6 _ _ _ HB2.out.hv).trans rfl; clear hb)
      | (go_at_call 11; (with_reducible refine (HF2.out _).mono ?_); rintro e w3 ⟨rfl, hb⟩; have HB3 := hid (HB2.out.below hb); have h0 := (cell_of_row _ _ 0 _ _ _ HB3.out.hh).trans rfl; have h1 := (cell_of_row _ _ 1 _ _ _ HB3.out.hh).trans rfl; clear hb)
      | (go_at_call 17; (with_reducible refine (HF3.out _).mono ?_); rintro e w4 ⟨rfl, hb⟩; have HB4 := hid (HB3.out.below hb); clear hb)
      | (go_at_call 12; (with_reducible refine (sanity_any _).mono ?_); rintro e w9 ⟨rfl, hb⟩; have HBZ := hid (HB4.out.hb.step hb); clear hb))
    go_ret
    exact ⟨rfl, HBZ.out⟩
  | true =>
  have HE3 := hid e3
  rw [e3] at HF3
  clear e3
  go_upto_region 3 with (first
    | (go_at_call 11; (with_reducible refine (HF1.out _).mono ?_); rintro e w2 ⟨rfl, hb⟩; have HB2 := hid (HI.out.below hb); have v0 := (cell_of_row _ _ 0 _ _ _ HB2.out.hv).trans rfl; have v1 := (cell_of_row _ _ 1 _ _ _ HB2.out.hv).trans rfl; have v2 := (cell_of_row _ _ 2 _ _ _ HB2.out.hv).trans rfl; have v3 := (cell_of_row _ _ 3 _ _ _ HB2.out.hv).trans rfl; have v4 := (cell_of_row _ _ 4 _ _ _ HB2.out.hv).trans rfl; have v5 := (cell_of_row _ _ 5 _ _ _ HB2.out.hv).trans rfl; have v6 := (cell_of_row _ _ 6 _ _ _ HB2.out.hv).trans rfl; clear hb)
    | (go_at_call 11; (with_reducible refine (HF2.out _).mono ?_); rintro e w3 ⟨rfl, hb⟩; have HB3 := hid (HB2.out.below hb); have h0 := (cell_of_row _ _ 0 _ _ _ HB3.out.hh).trans rfl; have h1 := (cell_of_row _ _ 1 _ _ _ HB3.out.hh).trans rfl; clear hb)
    | (go_at_call 17; (with_reducible refine (HF3.out _).mono ?_); rintro e w4 ⟨rfl, hb⟩; have HB4 := hid (HB3.out.below hb); clear hb)
    | (go_at_call 12; (with_reducible refine (sanity_any _).mono ?_); rintro e w9 ⟨rfl, hb⟩; have HBZ := hid (HB4.out.hb.step hb); clear hb))
  clear k0 k1 k2 k3 k4 k5 k6 v0 v1 v2 v3 v4 v5 v6 h0 h1 HF1 HF2 HF3 HI HB2 HB3
  have HUL := hid (few_len HE1.out)
  have HVL := hid (few_len HE2.out)
  have HHL := hid (homes_len HE3.out)
  clear HE1 HE2 HE3
  obtain ⟨k0, k1, k2, k3, k4, k5, k6⟩ := box7 HB4.out.hu
  cases hw : writB u with
  | false =>
    have HCN := hid (fun W (hb : Below w.heap.size w W) => clashesFn_no u ca cc ga gc W (HMU.out.below hb) (by have := HUL.out; omega) (by have := HUL.out; omega) hw)
    have HKN := hid (fun W (hb : Below w.heap.size w W) => colours_no u ca cc ga gc W (HMU.out.below hb) (by have := HUL.out; omega) (by have := HUL.out; omega) hw)
    clear hw
    go_wp2_with (first
      | (go_at_call 19; (with_reducible refine (HCN.out _ HB4.out.hb).mono ?_); rintro e w5 ⟨rfl, hb⟩; have HB5 := hid (HB4.out.below hb); obtain ⟨l0, l1, l2, l3, l4, l5, l6⟩ := box7 HB5.out.hu; clear hb)
      | (go_at_call 20; (with_reducible refine (HKN.out _ HB5.out.hb).mono ?_); rintro e w6 ⟨rfl, hb⟩; have HB6 := hid (HB5.out.below hb); clear hb)
      | (go_at_call 12; (with_reducible refine (sanity_any _).mono ?_); rintro e w9 ⟨rfl, hb⟩; have HBZ := hid ((HB6.out.hb.step (bnew w6 (.cells #[.slice none 0 0] 28))).step hb); clear hb))
    go_ret
    exact ⟨rfl, HBZ.out⟩
  | true =>
  have HCY := hid (fun W (hb : Below w.heap.size w W) => clashesFn_yes u ca cc ga gc W (HMU.out.below hb) (by have := HUL.out; omega) (by have := HUL.out; omega) hw)
  have HKY := hid (fun W (hb : Below w.heap.size w W) => colours_yes u ca cc ga gc W (HMU.out.below hb) (by have := HUL.out; omega) (by have := HUL.out; omega) hw)
  have HAL := hid (apart_law hw)
  have HCK := hid (fun (hz : chkRegs u v h t = 0) => chk_apart hw hz)
  have HAR := hid (writ_args hw)
  have HCR := hid (fun W (hb : Below w.heap.size w W) => checkRegs_any u v h t ca cc ga gc da dc ea ec ha hc ta tc W (HMU.out.below hb) (HMV.out.below hb) (HMH.out.below hb) (HMT.out.below hb) (by have := HUL.out; omega) (by have := HUL.out; omega) (by have := HHL.out; omega) (by have := HHL.out; omega) (by have := HVL.out; omega) (by have := HVL.out; omega) HVB.out HWF.out)
  clear hw HVB HWF
  generalize clashL u = cl at *
  obtain ⟨n, hn⟩ : ∃ n, n = u.slots.toNat := ⟨_, rfl⟩
  have HN : Hid ((n : Int) = u.slots) := hid (by have := HAR.out; omega)
  rw [← hn] at HKY HAL
  have HNB : Hid (n ≤ 200) := hid (by have := HAR.out; omega)
  clear hn HAR
  generalize colsI cl n = L at *
  generalize manyL (colsTo cl n) = m at *
  go_upto_region 7 with (first
    | (go_at_call 19; (with_reducible refine (HCY.out _ HB4.out.hb).mono ?_); rintro e w5 ⟨hb, v5, rfl, ho⟩; obtain ⟨pa, pc, rfl, hrp⟩ := ho.rd; have HB5 := hid (HB4.out.below hb); obtain ⟨l0, l1, l2, l3, l4, l5, l6⟩ := box7 HB5.out.hu; have HP5 := hid hrp; clear hb ho hrp)
    | (go_at_call 20; (with_reducible refine (HKY.out _ HB5.out.hb).mono ?_); rintro e w6 ⟨hb, v6, rfl, ho⟩; obtain ⟨la, lc, rfl, hrl⟩ := ho.rd; have HB6 := hid (HB5.out.below hb); have HP6 := hid (HP5.out.below hb); have HL6 := hid hrl; clear hb ho hrl))
  clear k0 k1 k2 k3 k4 k5 k6 l0 l1 l2 l3 l4 l5 l6 HB4 HB5 HP5 HCY HKY
  have HW := hid (bnew w6 (.cells #[.slice la L.length lc] 28))
  have HX7 := hid (heapn w6 (.cells #[.slice la L.length lc] 28) _ rfl)
  have HLB := hid HB6.out.hb.size
  have HLT := hid (lt_of_heap HB6.out.hh)
  obtain ⟨b9, hb9⟩ : ∃ b, b = w6.heap.size := ⟨_, rfl⟩
  obtain ⟨w7, hw7⟩ : ∃ W, W = w6.alloc (.cells #[.slice la L.length lc] 28) := ⟨_, rfl⟩
  rw [← hw7] at HW HX7
  rw [← hb9] at HX7
  rw [← hw7, ← hb9]
  have HB7 := hid (HB6.out.below HW.out)
  have HP7 := hid (HP6.out.below HW.out)
  have HL7 := hid (HL6.out.below HW.out)
  clear hw7 hb9 HB6 HP6 HL6 HW
  obtain ⟨k0, k1, k2, k3, k4, k5, k6⟩ := box7 HB7.out.hu
  obtain ⟨v0, v1, v2, v3, v4, v5, v6⟩ := box7 HB7.out.hv
  obtain ⟨h0, h1, _, _⟩ := box2 HB7.out.hh
  obtain ⟨ck, hck⟩ : ∃ c, c = chkRegs u v h t := ⟨_, rfl⟩
  rw [← hck] at HCR HCK
  clear hck
  go_upto_region 8 with (first
    | (go_at_call 18; (with_reducible refine (HCR.out _ HB7.out.hb).mono ?_); rintro e w8 ⟨rfl, hb⟩; have HB8 := hid (HB7.out.below hb); have HP8 := hid (HP7.out.below hb); have HL8 := hid (HL7.out.below hb); have HX8 := hid (keepBox hb HX7.out); clear hb))
  clear k0 k1 k2 k3 k4 k5 k6 v0 v1 v2 v3 v4 v5 v6 h0 h1 HB7 HP7 HL7 HX7 HCR
  obtain ⟨ok, hok⟩ : ∃ b, b = (ck == 0) := ⟨_, rfl⟩
  have HOK : Hid (ok = true → (h.length : Int) = u.slots ∧ ∀ p ∈ cl, ∃ (h1 : p.1.toNat < h.length) (h2 : p.2.toNat < h.length), h[p.1.toNat] ≠ h[p.2.toNat]) := hid (fun e => HCK.out (by rw [hok] at e; simpa using e))
  rw [← hok]
  clear hok HCK
  have hcl : cl.length ≤ 1000000 := by
    have h1 := HUL.out
    exact sortedP_len HAL.out.so (fun p hp => by have h2 := HAL.out.pr p hp; have h3 := HNB.out; unfold inK; omega)
  have hnl : L.length ≤ 200 := by rw [HAL.out.len]; have := HNB.out; omega
  go_upto_region 9 with fail
  go_loopg [58] cl.length (fun gh s58 wr => ∃ k : Nat, k ≤ cl.length ∧ gh = cl.length - k ∧ s58 = .int .i64 k ∧ Hid (Below w8.heap.size w8 wr))
  case atStart => exact ⟨0, Nat.zero_le _, rfl, rfl, hid (Below.refl _ _)⟩
  case round =>
    obtain ⟨k, hk, rfl, rfl, HBR⟩ := hrel
    by_cases hkl : k < cl.length
    case pos =>
      have nk : (k : Int) < (cl.length : Int) := by omega
      obtain ⟨bp, op, hpa, hbl, hcc⟩ := HP8.out.below HBR.out k hkl
      have hpm : cl[k] ∈ cl := List.getElem_mem hkl
      obtain ⟨hp0, hp1, hp2⟩ := HAL.out.pr _ hpm
      obtain ⟨hi1, hi2, hne⟩ := HAL.out.ne _ hpm
      have HOP := hid (fun e => (HOK.out e).2 _ hpm)
      have HPV : Hid (∀ (h : 0 < k), ltP (cl[k - 1]'(by omega)) cl[k] = true) := hid (fun h => List.pairwise_iff_getElem.1 HAL.out.so (k - 1) k (by omega) hkl (by omega))
      have q0 : wr.cell? ⟨bp, op + k * 2, none⟩ = some (.int .i64 cl[k].1) := hcc 0 _ rfl
      have q1 : wr.cell? ⟨bp, op + k * 2 + 1, none⟩ = some (.int .i64 cl[k].2) := hcc 1 _ rfl
      clear hcc
      generalize cl[k] = p at *
      obtain ⟨p1, p2⟩ := p
      dsimp only at *
      obtain ⟨i1, rfl⟩ : ∃ i : Nat, p1 = (i : Int) := ⟨p1.toNat, by omega⟩
      obtain ⟨i2, rfl⟩ : ∃ i : Nat, p2 = (i : Int) := ⟨p2.toNat, by omega⟩
      simp only [Int.toNat_natCast] at hi1 hi2 hne HOP
      subst hpa
      obtain ⟨bl, ol, hla, _, y1⟩ := (HL8.out.below HBR.out) i1 hi1
      obtain ⟨bl2, ol2, hla2, _, y2⟩ := (HL8.out.below HBR.out) i2 hi2
      rw [hla] at hla2
      cases hla2
      have HX9 := hid (keepBox HBR.out HX8.out)
      have HB9 := hid (HB8.out.below HBR.out)
      have HLA := hid hla
      clear hla
      go_upto_region 11 with fail
      have HWX := hid (bnew wr (.cells #[.int .i64 (i1 : Int), .int .i64 (i2 : Int)] 48))
      have HXX := hid (heapn wr (.cells #[.int .i64 (i1 : Int), .int .i64 (i2 : Int)] 48) _ rfl)
      obtain ⟨bx, hbx⟩ : ∃ b, b = wr.heap.size := ⟨_, rfl⟩
      obtain ⟨wx, hwx⟩ : ∃ W, W = wr.alloc (.cells #[.int .i64 (i1 : Int), .int .i64 (i2 : Int)] 48) := ⟨_, rfl⟩
      rw [← hwx] at HWX HXX
      rw [← hbx] at HXX
      rw [← hbx, ← hwx]
      clear hwx hbx q0 q1
      replace y1 := cell_later HWX.out y1
      replace y2 := cell_later HWX.out y2
      have c0 : wx.cell? ⟨bx, 0, none⟩ = some (.int .i64 (i1 : Int)) := (cell_of_row _ _ 0 _ _ _ HXX.out).trans rfl
      have c1 : wx.cell? ⟨bx, 1, none⟩ = some (.int .i64 (i2 : Int)) := (cell_of_row _ _ 1 _ _ _ HXX.out).trans rfl
      have d9 : wx.cell? ⟨b9, 0, none⟩ = some (.slice (some ⟨bl, ol, none⟩) L.length lc) := (cellO (keepBox HWX.out HX9.out)).trans (by rw [HLA.out])
      have n12 : (i1 : Int) < (i2 : Int) := hp1
      have nL1 : (i1 : Int) < (L.length : Int) := by omega
      have nL2 : (i2 : Int) < (L.length : Int) := by omega
      have nq : (L[i1] == L[i2]) = false := by simpa using hne
      clear hne
      have g1 : decide ((i2 : Int) ≤ (i1 : Int)) = false := decide_eq_false (by omega)
      have g1n : decide (i2 ≤ i1) = false := decide_eq_false (by omega)
      have g3 : decide ((L.length : Int) ≤ (i2 : Int)) = false := decide_eq_false (by omega)
      have g3n : decide (L.length ≤ i2) = false := decide_eq_false (by omega)
      have g4 : decide ((i1 : Int) < 0) = false := decide_eq_false (by omega)
      have HYS := hid (And.intro y1 y2)
      generalize L[i1] = z1 at *
      generalize L[i2] = z2 at *
      have HBX := hid (HBR.out.step HWX.out)
      go_cut [106] from 63 to 107 (fun s106 wy => s106 = .bool false ∧ Hid (Below wx.heap.size wx wy))
      case first =>
        by_cases hk0 : 0 < k
        case neg => as_aux_lemma =>
          have g2 : decide ((0 : Int) < (k : Int)) = false := decide_eq_false (by omega)
          have g2n : decide (0 < k) = false := decide_eq_false (by omega)
          go_still_tail 43, (by kernel_rfl)
          change wpList _ _ _ _ _ wx.drew
          go_wp2_with fail
          go_meet
          exact ⟨rfl, hid (bdrew _)⟩
        case pos => as_aux_lemma =>
          have g2 : decide ((0 : Int) < (k : Int)) = true := decide_eq_true (by omega)
          have g2n : decide (0 < k) = true := decide_eq_true hk0
          have hlp := HPV.out hk0
          obtain ⟨bp2, op2, hpa2, _, hcc⟩ := HP8.out.below HBX.out (k - 1) (by omega)
          cases hpa2
          have u0 : wx.cell? ⟨bp, op + (k - 1) * 2, none⟩ = some (.int .i64 (cl[k - 1]'(by omega)).1) := hcc 0 _ rfl
          have u1 : wx.cell? ⟨bp, op + (k - 1) * 2 + 1, none⟩ = some (.int .i64 (cl[k - 1]'(by omega)).2) := hcc 1 _ rfl
          clear hcc
          generalize cl[k - 1] = q at *
          obtain ⟨x1, x2⟩ := q
          dsimp only at u0 u1 hlp
          have HCM : Hid (Calls Tryz.prog 21 #[.slice (some ⟨bp, op + (k - 1) * 2, none⟩) 2 2, .slice (some ⟨bx, 0, none⟩) 2 2] wx.drew (RetS (.int .i64 (cmpLs [x1, x2] [(i1 : Int), (i2 : Int)])) wx.drew)) :=
            hid ((compare_any [x1, x2] [(i1 : Int), (i2 : Int)] (some ⟨bp, op + (k - 1) * 2, none⟩) (some ⟨bx, 0, none⟩) 2 2 wx.drew ((rdI2 u0 u1).below (bdrew _)) ((rdI2 c0 c1).below (bdrew _)) rfl (by simp)).mono (fun e w' h => ⟨h.1, h.2.symm⟩))
          have HCS := hid (cmp_lt hlp)
          obtain ⟨cm, hcm⟩ : ∃ c, c = cmpLs [x1, x2] [(i1 : Int), (i2 : Int)] := ⟨_, rfl⟩
          rw [← hcm] at HCM HCS
          clear hcm hlp u0 u1
          have g5 : decide ((0 : Int) ≤ cm) = false := decide_eq_false (by have := HCS.out; omega)
          obtain ⟨k', rfl⟩ : ∃ k', k = k' + 1 := ⟨k - 1, by omega⟩
          simp only [Nat.add_sub_cancel] at HCM
          have nk' : (k' : Int) < (cl.length : Int) := by omega
          have nw : IntKind.i64.wrap (k' : Int) = (k' : Int) := by
            unfold IntKind.wrap
            simp [IntKind.bits, IntKind.signed]
            omega
          go_still_tail 43, (by kernel_rfl)
          still_call (retS HCM.out)
          repeat still_step
          refine wpStill_nil ?_
          change wpList _ _ _ _ _ wx.drew
          go_wp2_with fail
          go_meet
          exact ⟨rfl, hid (bdrew _)⟩
      case rest => as_aux_lemma =>
        obtain ⟨rfl, HBY⟩ := hcut
        obtain ⟨wd, hwd⟩ : ∃ wd, wd = wc := ⟨_, rfl⟩
        rw [← hwd] at HBY
        rw [← hwd]
        clear hwd
        go_upto_region 13 with fail
        have HBC := hid (HBX.out.step HBY.out)
        replace c0 := cell_later HBY.out c0
        replace c1 := cell_later HBY.out c1
        replace d9 := cell_later HBY.out d9
        clear g1 g1n g3 g3n g4 y1 y2 nq HYS
        have HBE := hid (HBC.out.step (bdrew wd))
        cases ok with
        | false => as_aux_lemma =>
          go_still_tail 23, (by kernel_rfl)
          change wpList _ _ _ _ _ wd.drew
          go_wp2
          go_roundg (cl.length - (k + 1))
          case measure => omega
          case rel => exact ⟨k + 1, by omega, rfl, by go_num, HBE⟩
        | true => as_aux_lemma =>
          obtain ⟨hj1, hj2, hnh⟩ := HOP.out rfl
          have hlen := (HOK.out rfl).1
          have hll : h.length = L.length := by have h1 := HN.out; have h2 := HAL.out.len; omega
          have gl : ((h.length : Int) != (L.length : Int)) = false := by rw [hll]; simp
          obtain ⟨bh, oh, hha, _, r1⟩ := (HMH.out.below (HB8.out.hb.step HBC.out)) i1 hj1
          obtain ⟨bh2, oh2, hha2, _, r2⟩ := (HMH.out.below (HB8.out.hb.step HBC.out)) i2 hj2
          rw [hha] at hha2
          cases hha2
          have h0 : wd.cell? ⟨w.heap.size + 1 + 1, 0, none⟩ = some (.slice ha h.length hc) := (cell_of_row _ _ 0 _ _ _ (HB8.out.below HBC.out).hh).trans rfl
          rw [hha] at h0
          have nh1 : (i1 : Int) < (h.length : Int) := by omega
          have nh2 : (i2 : Int) < (h.length : Int) := by omega
          have gq : (h[i1] == h[i2]) = false := by simpa using hnh
          clear hnh hha hll hlen
          generalize h[i1] = x1 at *
          generalize h[i2] = x2 at *
          go_still_tail 23, (by kernel_rfl)
          change wpList _ _ _ _ _ wd.drew
          go_wp2
          go_roundg (cl.length - (k + 1))
          case measure => omega
          case rel => exact ⟨k + 1, by omega, rfl, by go_num, HBE⟩
    case neg =>
      obtain rfl : k = cl.length := by omega
      have HX9 := hid (keepBox HBR.out HX8.out)
      have d9 := cellO HX9.out
      have HW9 := hid HBR.out
      have hmf : ∀ (fn : Fn) (first cap : Array Value) (w : World), (Instr.makeFunc fn first cap).run Tryz.prog w = .ok (.func fn first cap) w := fun _ _ _ _ => rfl
      go_upto_region 17 with fail
      clear d9
      go_loopg [134] L.length (fun gh s134 wq => ∃ i : Nat, i ≤ L.length ∧ gh = L.length - i ∧ s134 = .int .i64 i ∧ Hid (Below w8.heap.size w8 wq))
      case atStart => exact ⟨0, Nat.zero_le _, rfl, rfl, HW9⟩
      case round =>
        obtain ⟨i, hi, rfl, rfl, HBQ⟩ := hrel
        by_cases hil : i < L.length
        case pos =>
          have ni : (i : Int) < (L.length : Int) := by omega
          obtain ⟨bl, ol, hla, _, y1⟩ := (HL8.out.below HBQ.out) i hil
          have HCO := hid (HAL.out.col i hil)
          have HLE := hid (fun j h => HAL.out.less i j hil h)
          have HBL : Hid (b9 < w8.heap.size) := hid (lt_of_heap HX8.out)
          generalize L[i] = z at *
          obtain ⟨zn, rfl⟩ : ∃ zn : Nat, z = (zn : Int) := ⟨z.toNat, by have := HCO.out; omega⟩
          have hzn : zn ≤ 200 := by have h1 := HCO.out; have h2 := HAL.out.mx; have h3 := HNB.out; omega
          have g1 : decide ((zn : Int) < 0) = false := decide_eq_false (by omega)
          have g2 : decide (m ≤ (zn : Int)) = false := decide_eq_false (by have := HCO.out; omega)
          subst hla
          go_upto_region 19 with fail
          have HWI := hid (bnew wr (.cells #[.int .i64 (i : Int)] 3))
          have HXI := hid (heapn wr (.cells #[.int .i64 (i : Int)] 3) _ rfl)
          obtain ⟨bi, hbi⟩ : ∃ b, b = wr.heap.size := ⟨_, rfl⟩
          obtain ⟨wi, hwi⟩ : ∃ W, W = wr.alloc (.cells #[.int .i64 (i : Int)] 3) := ⟨_, rfl⟩
          rw [← hwi] at HWI HXI
          rw [← hbi] at HXI
          rw [← hbi, ← hwi]
          clear hwi hbi y1
          have HBI := hid (HBQ.out.step HWI.out)
          go_upto_region 22 with fail
          go_loopg [147] zn (fun gh s147 wj => ∃ j : Nat, j ≤ zn ∧ gh = zn - j ∧ s147 = .int .i64 j ∧ Hid (Below wi.heap.size wi wj))
          case atStart => exact ⟨0, Nat.zero_le _, rfl, rfl, hid (Below.refl _ _)⟩
          case round =>
            obtain ⟨j, hj, rfl, rfl, HBJ⟩ := hrel
            by_cases hjz : j < zn
            case pos =>
              have nj : (j : Int) < (zn : Int) := by omega
              have HWJ := hid (bnew wr (.cells #[.int .i64 (j : Int)] 3))
              have HXJ := hid (heapn wr (.cells #[.int .i64 (j : Int)] 3) _ rfl)
              go_upto_region 24 with fail
              obtain ⟨bj, hbj⟩ : ∃ b, b = wr.heap.size := ⟨_, rfl⟩
              obtain ⟨wj, hwj⟩ : ∃ W, W = wr.alloc (.cells #[.int .i64 (j : Int)] 3) := ⟨_, rfl⟩
              rw [← hwj] at HWJ HXJ
              rw [← hbj] at HXJ
              rw [← hbj, ← hwj]
              clear hwj hbj
              have HBJ2 := hid (HBJ.out.step HWJ.out)
              have HBK := hid (HBI.out.step HBJ2.out)
              have HSM := hid (someP 23 enters23 #[.pointer (some ⟨bi, 0, none⟩), .pointer (some ⟨b9, 0, none⟩), .pointer (some ⟨bj, 0, none⟩)] (fun p => p.2 == (i : Int) && L.getD p.1.toNat 0 == (j : Int)) cl pa pc wj
                (fun x hx w' hb => k23 x i j L (some ⟨bl, ol, none⟩) lc bi b9 bj w' (keepBox (HBJ2.out.step hb) HXI.out) (keepBox (HBK.out.step hb) HX8.out) (keepBox hb HXJ.out) (HL8.out.below (HBK.out.step hb)) (by have h1 := HAL.out.pr x hx; have h2 := HAL.out.len; omega) (by omega))
                (HP8.out.below HBK.out) hcl)
              rw [HLE.out j nj] at HSM
              go_upto_region 26 with (first
                | (go_at_call 22; (with_reducible refine HSM.out.mono ?_); rintro e w2 ⟨rfl, hb⟩; have HB2 := hid (HBJ2.out.step hb); clear hb))
              go_wp2
              go_roundg (zn - (j + 1))
              case measure => omega
              case rel => exact ⟨j + 1, by omega, rfl, by go_num, HB2⟩
            case neg =>
              obtain rfl : j = zn := by omega
              go_wp2
              go_roundg (L.length - (i + 1))
              case measure => omega
              case rel => exact ⟨i + 1, by omega, rfl, by go_num, hid (HBI.out.step HBJ.out)⟩
        case neg =>
          obtain rfl : i = L.length := by omega
          have HXQ := hid (keepBox HBQ.out HX8.out)
          have d9 := cellO HXQ.out
          have HEQ := hid (HB8.out.below HBQ.out)
          have HLN : Hid ((L.length : Int) = u.slots) := hid (by have h1 := HN.out; have h2 := HAL.out.len; omega)
          have nll : ((L.length : Int) == u.slots) = true := by rw [HLN.out]; simp
          go_wp2_with (first
            | (go_at_call 12; (with_reducible refine (sanity_any _).mono ?_); rintro e w9 ⟨rfl, hb⟩; have HBZ := hid (HEQ.out.below hb); have d9' := cellO (keepBox hb HXQ.out); have k3 := (cell_of_row _ _ 3 _ _ _ HBZ.out.hu).trans rfl; clear hb))
          go_ret
          exact ⟨rfl, HBZ.out.hb⟩

end Go.Proofs.YtgalekifgnecjaaGreat
