/- The reference of layer 16: nexts. The reference of layer 16: behind. The reference of layer 16: after. The reference of layer 16: led. -/
import Derived.Test.YtgalekifgnecjaaGreatZ8
import Derived.Test.YtgalekifgnecjaaGreatX1
namespace Go.Proofs.YtgalekifgnecjaaGreat
open Go.RowKit

open Go.RowKit Go.Shelf
attribute [local go_sem] Oper.semAt_some
attribute [local irreducible] wpStill
theorem rd_two (w : World) (x y : Int) (T : TypeId) : RdI (w.alloc (.cells #[.int .i64 x, .int .i64 y] T)) (some ⟨w.heap.size, 0, none⟩) [x, y] := by
  intro i hi
  have hi' : i < 2 := hi
  have hx := heapA w (.cells #[.int .i64 x, .int .i64 y] T)
  rcases (show i = 0 ∨ i = 1 by omega) with rfl | rfl
  · exact ⟨_, _, rfl, lt_alloc _ _, cell_in hx rfl⟩
  · exact ⟨_, _, rfl, lt_alloc _ _, cell_in hx rfl⟩
theorem rdV_one (w : World) (x : Int) (T : TypeId) : RdV (w.alloc (.cells #[.int .i64 x] T)) (.slice (some ⟨w.heap.size, 0, none⟩) 1 1) [x] := ⟨_, _, rfl, rd_one w x T, Nat.le_refl _, .inr ⟨_, _, rfl⟩⟩
theorem rdV_two (w : World) (x y : Int) (T : TypeId) : RdV (w.alloc (.cells #[.int .i64 x, .int .i64 y] T)) (.slice (some ⟨w.heap.size, 0, none⟩) 2 2) [x, y] := ⟨_, _, rfl, rd_two w x y T, Nat.le_refl _, .inr ⟨_, _, rfl⟩⟩
theorem rdV_oneK (w : World) (x : Int) (T : TypeId) (k : Nat) (h : k = w.heap.size) : RdV (w.alloc (.cells #[.int .i64 x] T)) (.slice (some ⟨k, 0, none⟩) 1 1) [x] := by subst h; exact rdV_one w x T
theorem rdV_twoK (w : World) (x y : Int) (T : TypeId) (k : Nat) (h : k = w.heap.size) : RdV (w.alloc (.cells #[.int .i64 x, .int .i64 y] T)) (.slice (some ⟨k, 0, none⟩) 2 2) [x, y] := by subst h; exact rdV_two w x y T
set_option maxRecDepth 100000 in
set_option maxHeartbeats 4000000 in
theorem nexts145 (u : UntN) (t : Nat) (ht : t < u.code.length) (hlen : u.code.length ≤ 600) (ca : Option Addr) (cc : Nat) (ga : Option Addr) (gc : Nat) (w : World) (hm : RdC w ca u.code) :
    Calls Tryz.prog 145 #[vU u ca cc ga gc, .int .i64 t] w (PutRet (nextsR (u.code.getD t ins0) t) w) := by
  rw [getD_in ht]
  have HB0 := hid (bnew w (oU u ca cc ga gc))
  have HX0 := hid (heapn w (oU u ca cc ga gc) _ rfl)
  obtain ⟨bc, oc, hca, hlc2, c0, c1, c2, c3⟩ := hm.below HB0.out t ht
  subst hca
  obtain ⟨k0, k1, k2, k3, k4, k5, k6⟩ := box7 HX0.out
  have nt : (t : Int) < (u.code.length : Int) := by omega
  have nt1 : (t : Int) + 1 ≤ 600 := by omega
  clear hm
  have HN : Hid (∀ x : InsN, x = u.code[t] → nextsR u.code[t] t = if x.op = 24 then [x.a] else if x.op = 26 ∨ x.op = 27 ∨ x.op = 28 then [] else if x.op = 25 ∨ x.op = 32 then [(t : Int) + 1, x.b] else [(t : Int) + 1]) := hid (fun x e => by rw [e]; rfl)
  replace HN := hid (HN.out _ rfl)
  generalize nextsR u.code[t] t = L at *
  generalize u.code[t] = i at *
  have HB : Hid (∀ o, Below w.heap.size w ((w.alloc (oU u (some ⟨bc, oc, none⟩) cc ga gc)).alloc o)) := hid (fun o => HB0.out.step (bnew _ _))
  by_cases e24 : i.op = 24
  · rw [if_pos e24] at HN
    have d24 : (i.op == 24) = true := by simpa using e24
    clear e24
    go_enter Tryz.func145, Tryz.ntmps145
    go_wp2
    go_ret
    exact ⟨(HB.out _).step (bnew _ _), _, rfl, by rw [HN.out]; exact rdV_oneK _ _ _ _ (by simp)⟩
  · by_cases e26 : i.op = 26
    · rw [if_neg e24, if_pos (.inl e26)] at HN
      have d24 : (i.op == 24) = false := by simpa using e24
      have d26 : (i.op == 26) = true := by simpa using e26
      clear e24 e26
      go_enter Tryz.func145, Tryz.ntmps145
      go_wp2
      go_ret
      exact ⟨HB.out _, _, rfl, by rw [HN.out]; exact RdV.nilP _⟩
    · by_cases e27 : i.op = 27
      · rw [if_neg e24, if_pos (.inr (.inl e27))] at HN
        have d24 : (i.op == 24) = false := by simpa using e24
        have d26 : (i.op == 26) = false := by simpa using e26
        have d27 : (i.op == 27) = true := by simpa using e27
        clear e24 e26 e27
        go_enter Tryz.func145, Tryz.ntmps145
        go_wp2
        go_ret
        exact ⟨HB.out _, _, rfl, by rw [HN.out]; exact RdV.nilP _⟩
      · by_cases e28 : i.op = 28
        · rw [if_neg e24, if_pos (.inr (.inr e28))] at HN
          have d24 : (i.op == 24) = false := by simpa using e24
          have d26 : (i.op == 26) = false := by simpa using e26
          have d27 : (i.op == 27) = false := by simpa using e27
          have d28 : (i.op == 28) = true := by simpa using e28
          clear e24 e26 e27 e28
          go_enter Tryz.func145, Tryz.ntmps145
          go_wp2
          go_ret
          exact ⟨HB.out _, _, rfl, by rw [HN.out]; exact RdV.nilP _⟩
        · by_cases e25 : i.op = 25
          · rw [if_neg e24, if_neg (by omega), if_pos (.inl e25)] at HN
            have d24 : (i.op == 24) = false := by simpa using e24
            have d26 : (i.op == 26) = false := by simpa using e26
            have d27 : (i.op == 27) = false := by simpa using e27
            have d28 : (i.op == 28) = false := by simpa using e28
            have d25 : (i.op == 25) = true := by simpa using e25
            clear e24 e26 e27 e28 e25
            go_enter Tryz.func145, Tryz.ntmps145
            go_wp2
            go_ret
            exact ⟨(HB.out _).step (bnew _ _), _, rfl, by rw [HN.out]; exact rdV_twoK _ _ _ _ _ (by simp)⟩
          · by_cases e32 : i.op = 32
            · rw [if_neg e24, if_neg (by omega), if_pos (.inr e32)] at HN
              have d24 : (i.op == 24) = false := by simpa using e24
              have d26 : (i.op == 26) = false := by simpa using e26
              have d27 : (i.op == 27) = false := by simpa using e27
              have d28 : (i.op == 28) = false := by simpa using e28
              have d25 : (i.op == 25) = false := by simpa using e25
              have d32 : (i.op == 32) = true := by simpa using e32
              clear e24 e26 e27 e28 e25 e32
              go_enter Tryz.func145, Tryz.ntmps145
              go_wp2
              go_ret
              exact ⟨(HB.out _).step (bnew _ _), _, rfl, by rw [HN.out]; exact rdV_twoK _ _ _ _ _ (by simp)⟩
            · rw [if_neg e24, if_neg (by omega), if_neg (by omega)] at HN
              have d24 : (i.op == 24) = false := by simpa using e24
              have d26 : (i.op == 26) = false := by simpa using e26
              have d27 : (i.op == 27) = false := by simpa using e27
              have d28 : (i.op == 28) = false := by simpa using e28
              have d25 : (i.op == 25) = false := by simpa using e25
              have d32 : (i.op == 32) = false := by simpa using e32
              clear e24 e26 e27 e28 e25 e32
              go_enter Tryz.func145, Tryz.ntmps145
              go_wp2
              go_ret
              exact ⟨(HB.out _).step (bnew _ _), _, rfl, by rw [HN.out]; exact rdV_oneK _ _ _ _ (by simp)⟩

theorem insS_lenC (x : Int) : ∀ l : List Int, (insS x l).length ≤ l.length + 1
  | [] => by simp [insS]
  | y :: l => by
    unfold insS
    split
    · simp
    · split
      · simp
      · have := insS_lenC x l
        simp only [List.length_cons]
        omega
theorem putAll_len (s l : List Int) : (putAll s l).length ≤ s.length + l.length := by
  induction l generalizing s with
  | nil => simp [putAll]
  | cons x l ih =>
    have h1 := ih (insS x s)
    have h2 := insS_lenC x s
    simp only [putAll, List.foldl_cons, List.length_cons] at h1 ⊢
    omega
theorem putAll_snoc (s l : List Int) (x : Int) : putAll s (l ++ [x]) = insS x (putAll s l) := by
  simp [putAll, List.foldl_append]
def behTo (live : List (List Int)) (ps : List Int) : List Int := ps.foldl (fun s p => putAll s (live.getD p.toNat [])) []
theorem behTo_snoc (live : List (List Int)) (ps : List Int) (p : Int) : behTo live (ps ++ [p]) = putAll (behTo live ps) (live.getD p.toNat []) := by
  simp [behTo, List.foldl_append]
theorem behTo_lenA (live : List (List Int)) (h : ∀ r ∈ live, r.length ≤ 10000) : ∀ (ps s : List Int), (ps.foldl (fun s p => putAll s (live.getD p.toNat [])) s).length ≤ s.length + 10000 * ps.length
  | [], s => by simp
  | p :: ps, s => by
    have h1 := putAll_len s (live.getD p.toNat [])
    have h2 : (live.getD p.toNat []).length ≤ 10000 := by
      by_cases hp : p.toNat < live.length
      · rw [getD_in hp]; exact h _ (List.getElem_mem hp)
      · rw [List.getD_eq_getElem?_getD, List.getElem?_eq_none (by omega)]; simp
    have h3 := behTo_lenA live h ps (putAll s (live.getD p.toNat []))
    rw [List.foldl_cons, List.length_cons]
    omega
theorem behTo_len (live : List (List Int)) (h : ∀ r ∈ live, r.length ≤ 10000) (ps : List Int) : (behTo live ps).length ≤ 10000 * ps.length := by
  have := behTo_lenA live h ps []
  simpa [behTo] using this
theorem nextsR_len (x : InsN) (t : Nat) : (nextsR x t).length ≤ 2 := by
  unfold nextsR
  split
  · simp
  · split
    · simp
    · split
      · simp
      · simp
set_option maxRecDepth 100000 in
set_option maxHeartbeats 8000000 in
theorem behind81 (u : UntN) (live : List (List Int)) (t : Nat) (ht : t < u.code.length) (hlen : u.code.length ≤ 600) (ca : Option Addr) (cc : Nat) (ga : Option Addr) (gc : Nat) (la : Option Addr) (lc : Nat) (w : World) (hm : RdC w ca u.code) (hl : RdM w la live)
    (hrow : ∀ r ∈ live, r.length ≤ 10000) (hp : ∀ p ∈ nextsR (u.code.getD t ins0) t, 0 ≤ p ∧ p < live.length) :
    Calls Tryz.prog 81 #[vU u ca cc ga gc, .slice la live.length lc, .int .i64 t] w (PutRet (behindR u live t) w) := by
  have HNX := hid (fun wx (hb : Below w.heap.size w wx) => nexts145 u t ht hlen ca cc ga gc wx (hm.below hb))
  obtain ⟨P, hP⟩ : ∃ P, P = nextsR (u.code.getD t ins0) t := ⟨_, rfl⟩
  have HPL : Hid (P.length ≤ 2) := hid (by rw [hP]; exact nextsR_len _ _)
  have HFIN : Hid (behindR u live t = behTo live P) := hid (by rw [hP]; rfl)
  rw [← hP] at hp HNX
  have HPR := hid hp
  have HROW := hid hrow
  have HL := hid hl
  have HX := hid (heapn w (oU u ca cc ga gc) _ rfl)
  have HB := hid (bnew w (oU u ca cc ga gc))
  clear hm hl hrow hp hP
  generalize behindR u live t = Q at *
  go_enter Tryz.func81, Tryz.ntmps81
  obtain ⟨k0, k1, k2, k3, k4, k5, k6⟩ := box7 HX.out
  go_upto_region 3 with (go_at_call 145; (with_reducible refine (HNX.out _ HB.out).mono ?_); rintro e w2 ⟨hb2, v2, rfl, hv2⟩; have HB2 := hid (HB.out.step hb2); have HV2 := hid hv2; clear hb2 hv2)
  obtain ⟨pa, pc, rfl, hpr, -, -⟩ := HV2.out.ex
  have HP := hid hpr
  clear hpr k0 k1 k2 k3 k4 k5 k6
  go_wp2
  go_loopg [7, 9] P.length (fun gh s7 s9 wr => ∃ j : Nat, j ≤ P.length ∧ gh = P.length - j ∧ s9 = .int .i64 j ∧ Hid (RdV wr s7 (behTo live (P.take j)) ∧ Below w2.heap.size w2 wr))
  case atStart => exact ⟨0, Nat.zero_le _, rfl, rfl, hid ⟨RdV.nilP _, Below.refl _ _⟩⟩
  case round =>
    obtain ⟨j, hj, rfl, rfl, HK⟩ := hrel
    by_cases hlj : j < P.length
    · obtain ⟨pb, po, hpa, hltp, h0⟩ := (HP.out.below HK.out.2) j hlj
      subst hpa
      have nj : (j : Int) < (P.length : Int) := by omega
      have HT : Hid (P.take (j + 1) = P.take j ++ [P[j]]) := hid (take_last hlj)
      have HSN := hid (behTo_snoc live (P.take j) P[j])
      rw [← HT.out] at HSN
      have hpr := HPR.out P[j] (List.getElem_mem hlj)
      have HLN := hid (behTo_len live HROW.out (P.take j))
      rw [List.length_take, Nat.min_eq_left hj] at HLN
      generalize P[j] = p at *
      obtain ⟨pn, rfl⟩ : ∃ pn : Nat, p = pn := ⟨p.toNat, by omega⟩
      have hpn : pn < live.length := by omega
      have npl : (pn : Int) < (live.length : Int) := by omega
      rw [Int.toNat_natCast] at HSN
      obtain ⟨lb, lo, hla, hltl, la2, lc2, hc, hrr⟩ := RdM.row (HL.out.below ((HB2.out.step HK.out.2))) hpn
      subst hla
      have HRL : Hid ((live.getD pn []).length ≤ 10000) := hid (by rw [getD_in hpn]; exact HROW.out _ (List.getElem_mem hpn))
      have HRR := hid hrr
      have HBW := hid (HB2.out.step HK.out.2)
      clear hrr hpr
      generalize live.getD pn [] = R at *
      generalize behTo live (P.take j) = A at *
      obtain ⟨A', hA'⟩ : ∃ A', A' = behTo live (P.take (j + 1)) := ⟨_, rfl⟩
      rw [← hA'] at HSN
      have HA' := hid hA'
      clear hA'
      have hpl := HPL.out
      have hrl := HRL.out
      go_wp2
      go_loopg [7, 10] R.length (fun gh s7 s10 w5 => ∃ k : Nat, k ≤ R.length ∧ gh = R.length - k ∧ s10 = .int .i64 k ∧ Hid (RdV w5 s7 (putAll A (R.take k)) ∧ Below wr.heap.size wr w5))
      case atStart => exact ⟨0, Nat.zero_le _, rfl, rfl, hid ⟨HK.out.1, Below.refl _ _⟩⟩
      case round =>
        rename_i w0
        obtain ⟨k, hk, rfl, rfl, HK5⟩ := hrel
        have h05 := cell_later HK5.out.2 h0
        have hc5 := cell_later HK5.out.2 hc
        clear h0 hc
        by_cases hlk : k < R.length
        · obtain ⟨rb, ro, hra, hltr, hy⟩ := (HRR.out.below HK5.out.2) k hlk
          subst hra
          have nk : (k : Int) < (R.length : Int) := by omega
          have HTK : Hid (R.take (k + 1) = R.take k ++ [R[k]]) := hid (take_last hlk)
          have HSK := hid (putAll_snoc A (R.take k) R[k])
          rw [← HTK.out] at HSK
          have hln := putAll_len A (R.take k)
          rw [List.length_take, Nat.min_eq_left hk] at hln
          have HPT := hid (fun y => put83 u7 (putAll A (R.take k)) y wr HK5.out.1 (by have := HLN.out; have := HRL.out; omega))
          generalize R[k] = y at *
          go_wp2_with (go_at_call 83; (with_reducible refine (HPT.out _).mono ?_); rintro e w6 ⟨hb6, v6, rfl, hv6⟩; have HB6 := hid hb6; have HV6 := hid hv6; clear hb6 hv6)
          go_roundg (R.length - (k + 1))
          case measure => omega
          case rel => exact ⟨k + 1, by omega, rfl, by go_num, hid ⟨by rw [HSK.out]; exact HV6.out, HK5.out.2.step HB6.out⟩⟩
        · obtain rfl : k = R.length := by omega
          have nk : ¬ (R.length : Int) < (R.length : Int) := by omega
          rw [List.take_length] at HK5
          go_wp2
          go_roundg (P.length - (j + 1))
          case measure => omega
          case rel => exact ⟨j + 1, by omega, rfl, by go_num, hid ⟨by rw [← HA'.out, HSN.out]; exact HK5.out.1, HK.out.2.step HK5.out.2⟩⟩
    · obtain rfl : j = P.length := by omega
      have nj : ¬ (P.length : Int) < (P.length : Int) := by omega
      rw [List.take_length] at HK
      go_wp2
      go_ret
      exact ⟨HB2.out.step HK.out.2, _, rfl, by rw [HFIN.out]; exact HK.out.1⟩



set_option maxRecDepth 100000 in
set_option maxHeartbeats 16000000 in
theorem led116 (u : UntN) (p : Int) (hpl : plainB u = true) (ca : Option Addr) (cc : Nat) (ga : Option Addr) (gc : Nat) (w : World) (hm : UnM w u ca cc ga gc) (hlen : u.code.length ≤ 600) (hgl : u.guards.length ≤ 40) :
    Calls Tryz.prog 116 #[vU u ca cc ga gc, .int .i64 p] w (RetB (.bool (ledB u p)) w) := by
  have HGO := hid (fun (t : Nat) (ht : t < u.code.length) wx (hb : Below w.heap.size w wx) => (by
    have h := guardOf180 u t ca cc ga gc wx (hm.below hb) (by omega) (by omega)
    have hin : inN (t : Int) 0 ((u.code.length : Int) - 1) = true := by unfold inN; simp; omega
    rwa [if_pos hpl, if_pos hin] at h : Calls Tryz.prog 180 #[vU u ca cc ga gc, .int .i64 t] wx (RetB (.int .i64 (guardL u t)) wx)))
  have HLED : Hid (ledB u p = (List.range u.code.length).any (ledOne u p)) := hid rfl
  generalize ledB u p = Q at *
  have HM := hid hm
  have HX := hid (heapn w (oU u ca cc ga gc) _ rfl)
  have HB := hid (bnew w (oU u ca cc ga gc))
  clear hm hpl
  go_enter Tryz.func116, Tryz.ntmps116
  go_wp2
  obtain ⟨w2, hw2⟩ : ∃ w2, w2 = w.alloc (oU u ca cc ga gc) := ⟨_, rfl⟩
  rw [← hw2] at HX HB
  rw [← hw2]
  clear hw2
  go_loopg [5] u.code.length (fun gh s5 wr => ∃ t : Nat, t ≤ u.code.length ∧ gh = u.code.length - t ∧ s5 = .int .i64 t ∧ Hid ((∀ k, k < t → ledOne u p k = false) ∧ Below w2.heap.size w2 wr))
  case atStart => exact ⟨0, Nat.zero_le _, rfl, rfl, hid ⟨fun k h => absurd h (Nat.not_lt_zero _), Below.refl _ _⟩⟩
  case round =>
    obtain ⟨t, htl, rfl, rfl, HK⟩ := hrel
    obtain ⟨k0, k1, k2, k3, k4, k5, k6⟩ := box7 (keepBox HK.out.2 HX.out)
    by_cases ht : t < u.code.length
    · have nt : (t : Int) < (u.code.length : Int) := by omega
      have HGT := hid (HGO.out t ht)
      obtain ⟨b2, off, hca, hlt2, c0, c1, c2, c3⟩ := (HM.out.rc.below (HB.out.step HK.out.2)) t ht
      subst hca
      have HYES : Hid (ledOne u p t = true → Q = true) := hid (fun e => by rw [HLED.out]; exact List.any_eq_true.2 ⟨t, List.mem_range.2 ht, e⟩)
      have HNO : Hid (ledOne u p t = false → ∀ k, k < t + 1 → ledOne u p k = false) := hid (fun e k hk => by
        by_cases h : k < t
        · exact HK.out.1 k h
        · obtain rfl : k = t := by omega
          exact e)
      have HONE : Hid (ledOne u p t = ((match placeO (u.code.getD t ins0) with | some q => q == p | none => false) || (raisesB (u.code.getD t ins0) && decide (0 ≤ guardL u t) && (u.guards.getD (guardL u t).toNat grd0).at' == p))) := hid rfl
      rw [getD_in ht] at HONE
      have HRS := hid (fun wx => raises122 u.code[t] wx)
      have hq : guardL u t = -1 ∨ ∃ m : Nat, guardL u t = m ∧ m < u.guards.length := (by
        have h := idxP_lt (guardIn (t : Int)) u.guards
        have e : guardL u t = idxP (guardIn (t : Int)) u.guards := rfl
        by_cases h0 : guardL u t = -1
        · exact .inl h0
        · exact .inr ⟨(guardL u t).toNat, by omega, by omega⟩)
      have HRC := hid (fun wx (hb : Below wr.heap.size wr wx) => (HM.out.rc.below (HB.out.step (HK.out.2.step hb))) t ht)
      generalize ledOne u p t = L1 at *
      generalize guardL u t = q at *
      generalize u.code[t] = x at *
      have HPO : Hid (placeO x = if x.op == 24 then some x.a else if x.op == 25 || x.op == 32 then some x.b else none) := hid rfl
      generalize placeO x = po at *
      generalize raisesB x = br at *
      have HXB := hid (heapn wr (.cells #[.int .i64 x.op, .int .i64 x.a, .int .i64 x.b, .int .i64 x.c] 85) _ rfl)
      have HBX := hid (bnew wr (.cells #[.int .i64 x.op, .int .i64 x.a, .int .i64 x.b, .int .i64 x.c] 85))
      obtain ⟨op, a, b, c⟩ := x
      dsimp only at HPO c0 c1 c2 c3 HXB HBX
      by_cases h24 : op = 24
      · subst h24
        have hpo : po = some a := HPO.out
        clear HPO
        subst hpo
        replace HONE : Hid (L1 = ((a == p) || (br && decide (0 ≤ q) && (u.guards.getD q.toNat grd0).at' == p))) := hid HONE.out
        cases hap : (a == p) with
        | true =>
          rw [hap, Bool.true_or] at HONE
          replace HYES := hid (HYES.out HONE.out)
          clear HNO HONE
          go_wp2
          go_ret
          exact ⟨ret_bool HYES.out.symm, HB.out.step (HK.out.2.step HBX.out)⟩
        | false =>
          rw [hap, Bool.false_or] at HONE
          cases br with
          | false =>
            replace HONE := hid (HONE.out.trans rfl : L1 = false)
            replace HNO := hid (HNO.out HONE.out)
            clear HYES HONE
            go_wp2_with (first
              | (go_at_call 122; refine (HRS.out _).mono ?_; rintro e w3 ⟨rfl, hb3⟩; have HB3 := hid (HBX.out.step hb3); have HW3 := hid (HK.out.2.step HB3.out); obtain ⟨y0, y1, y2, y3, y4, y5, y6⟩ := box7 (keepBox HW3.out HX.out); clear hb3)
              | (go_at_call 180; refine (HGT.out _ (HB.out.step HW3.out)).mono ?_; rintro e w4 ⟨rfl, hb4⟩; have HB4 := hid (HW3.out.step hb4); obtain ⟨z0, z1, z2, z3, z4, z5, z6⟩ := box7 (keepBox HB4.out HX.out); clear hb4))
            go_roundg (u.code.length - (t + 1))
            case measure => omega
            case rel => exact ⟨t + 1, by omega, rfl, by go_num, hid ⟨HNO.out, HB4.out⟩⟩
          | true =>
            rcases hq with rfl | ⟨m, rfl, hm2⟩
            · replace HONE := hid (HONE.out.trans rfl : L1 = false)
              replace HNO := hid (HNO.out HONE.out)
              clear HYES HONE
              go_wp2_with (first
                | (go_at_call 122; refine (HRS.out _).mono ?_; rintro e w3 ⟨rfl, hb3⟩; have HB3 := hid (HBX.out.step hb3); have HW3 := hid (HK.out.2.step HB3.out); obtain ⟨y0, y1, y2, y3, y4, y5, y6⟩ := box7 (keepBox HW3.out HX.out); clear hb3)
                | (go_at_call 180; refine (HGT.out _ (HB.out.step HW3.out)).mono ?_; rintro e w4 ⟨rfl, hb4⟩; have HB4 := hid (HW3.out.step hb4); obtain ⟨z0, z1, z2, z3, z4, z5, z6⟩ := box7 (keepBox HB4.out HX.out); clear hb4))
              go_roundg (u.code.length - (t + 1))
              case measure => omega
              case rel => exact ⟨t + 1, by omega, rfl, by go_num, hid ⟨HNO.out, HB4.out⟩⟩
            · have nm : (m : Int) < (u.guards.length : Int) := by omega
              have nm0 : (0 : Int) ≤ (m : Int) := by omega
              have HRG := hid (fun wx (hb : Below w.heap.size w wx) => (HM.out.rg.below hb) m hm2)
              rw [Int.toNat_natCast, getD_in hm2, decide_eq_true nm0] at HONE
              generalize u.guards[m] = g at *
              obtain ⟨gf, gt, gA⟩ := g
              dsimp only at HONE HRG
              obtain ⟨gb0, go0, hga0, -⟩ := HRG.out w (Below.refl _ _)
              subst hga0
              cases hgp : (gA == p) with
              | true =>
                rw [hgp] at HONE
                replace HYES := hid (HYES.out HONE.out)
                clear HNO HONE
                go_wp2_with (first
                  | (go_at_call 122; refine (HRS.out _).mono ?_; rintro e w3 ⟨rfl, hb3⟩; have HB3 := hid (HBX.out.step hb3); have HW3 := hid (HK.out.2.step HB3.out); obtain ⟨y0, y1, y2, y3, y4, y5, y6⟩ := box7 (keepBox HW3.out HX.out); clear hb3)
                  | (go_at_call 180; refine (HGT.out _ (HB.out.step HW3.out)).mono ?_; rintro e w4 ⟨rfl, hb4⟩; have HB4 := hid (HW3.out.step hb4); obtain ⟨z0, z1, z2, z3, z4, z5, z6⟩ := box7 (keepBox HB4.out HX.out); obtain ⟨gb, go, hga, hltg, e0, e1, e2⟩ := HRG.out _ (HB.out.step HB4.out); cases hga; clear hb4))
                go_ret
                exact ⟨ret_bool HYES.out.symm, HB.out.step HB4.out⟩
              | false =>
                rw [hgp] at HONE
                replace HONE := hid (HONE.out.trans rfl : L1 = false)
                replace HNO := hid (HNO.out HONE.out)
                clear HYES HONE
                go_wp2_with (first
                  | (go_at_call 122; refine (HRS.out _).mono ?_; rintro e w3 ⟨rfl, hb3⟩; have HB3 := hid (HBX.out.step hb3); have HW3 := hid (HK.out.2.step HB3.out); obtain ⟨y0, y1, y2, y3, y4, y5, y6⟩ := box7 (keepBox HW3.out HX.out); clear hb3)
                  | (go_at_call 180; refine (HGT.out _ (HB.out.step HW3.out)).mono ?_; rintro e w4 ⟨rfl, hb4⟩; have HB4 := hid (HW3.out.step hb4); obtain ⟨z0, z1, z2, z3, z4, z5, z6⟩ := box7 (keepBox HB4.out HX.out); obtain ⟨gb, go, hga, hltg, e0, e1, e2⟩ := HRG.out _ (HB.out.step HB4.out); cases hga; clear hb4))
                go_roundg (u.code.length - (t + 1))
                case measure => omega
                case rel => exact ⟨t + 1, by omega, rfl, by go_num, hid ⟨HNO.out, HB4.out⟩⟩
      · by_cases h25 : op = 25
        · subst h25
          have hpo : po = some b := HPO.out
          clear HPO
          subst hpo
          replace HONE : Hid (L1 = ((b == p) || (br && decide (0 ≤ q) && (u.guards.getD q.toNat grd0).at' == p))) := hid HONE.out
          cases hap : (b == p) with
          | true =>
            rw [hap, Bool.true_or] at HONE
            replace HYES := hid (HYES.out HONE.out)
            clear HNO HONE
            go_wp2
            go_ret
            exact ⟨ret_bool HYES.out.symm, HB.out.step (HK.out.2.step HBX.out)⟩
          | false =>
            rw [hap, Bool.false_or] at HONE
            cases br with
            | false =>
              replace HONE := hid (HONE.out.trans rfl : L1 = false)
              replace HNO := hid (HNO.out HONE.out)
              clear HYES HONE
              go_wp2_with (first
                | (go_at_call 122; refine (HRS.out _).mono ?_; rintro e w3 ⟨rfl, hb3⟩; have HB3 := hid (HBX.out.step hb3); have HW3 := hid (HK.out.2.step HB3.out); obtain ⟨y0, y1, y2, y3, y4, y5, y6⟩ := box7 (keepBox HW3.out HX.out); clear hb3)
                | (go_at_call 180; refine (HGT.out _ (HB.out.step HW3.out)).mono ?_; rintro e w4 ⟨rfl, hb4⟩; have HB4 := hid (HW3.out.step hb4); obtain ⟨z0, z1, z2, z3, z4, z5, z6⟩ := box7 (keepBox HB4.out HX.out); clear hb4))
              go_roundg (u.code.length - (t + 1))
              case measure => omega
              case rel => exact ⟨t + 1, by omega, rfl, by go_num, hid ⟨HNO.out, HB4.out⟩⟩
            | true =>
              rcases hq with rfl | ⟨m, rfl, hm2⟩
              · replace HONE := hid (HONE.out.trans rfl : L1 = false)
                replace HNO := hid (HNO.out HONE.out)
                clear HYES HONE
                go_wp2_with (first
                  | (go_at_call 122; refine (HRS.out _).mono ?_; rintro e w3 ⟨rfl, hb3⟩; have HB3 := hid (HBX.out.step hb3); have HW3 := hid (HK.out.2.step HB3.out); obtain ⟨y0, y1, y2, y3, y4, y5, y6⟩ := box7 (keepBox HW3.out HX.out); clear hb3)
                  | (go_at_call 180; refine (HGT.out _ (HB.out.step HW3.out)).mono ?_; rintro e w4 ⟨rfl, hb4⟩; have HB4 := hid (HW3.out.step hb4); obtain ⟨z0, z1, z2, z3, z4, z5, z6⟩ := box7 (keepBox HB4.out HX.out); clear hb4))
                go_roundg (u.code.length - (t + 1))
                case measure => omega
                case rel => exact ⟨t + 1, by omega, rfl, by go_num, hid ⟨HNO.out, HB4.out⟩⟩
              · have nm : (m : Int) < (u.guards.length : Int) := by omega
                have nm0 : (0 : Int) ≤ (m : Int) := by omega
                have HRG := hid (fun wx (hb : Below w.heap.size w wx) => (HM.out.rg.below hb) m hm2)
                rw [Int.toNat_natCast, getD_in hm2, decide_eq_true nm0] at HONE
                generalize u.guards[m] = g at *
                obtain ⟨gf, gt, gA⟩ := g
                dsimp only at HONE HRG
                obtain ⟨gb0, go0, hga0, -⟩ := HRG.out w (Below.refl _ _)
                subst hga0
                cases hgp : (gA == p) with
                | true =>
                  rw [hgp] at HONE
                  replace HYES := hid (HYES.out HONE.out)
                  clear HNO HONE
                  go_wp2_with (first
                    | (go_at_call 122; refine (HRS.out _).mono ?_; rintro e w3 ⟨rfl, hb3⟩; have HB3 := hid (HBX.out.step hb3); have HW3 := hid (HK.out.2.step HB3.out); obtain ⟨y0, y1, y2, y3, y4, y5, y6⟩ := box7 (keepBox HW3.out HX.out); clear hb3)
                    | (go_at_call 180; refine (HGT.out _ (HB.out.step HW3.out)).mono ?_; rintro e w4 ⟨rfl, hb4⟩; have HB4 := hid (HW3.out.step hb4); obtain ⟨z0, z1, z2, z3, z4, z5, z6⟩ := box7 (keepBox HB4.out HX.out); obtain ⟨gb, go, hga, hltg, e0, e1, e2⟩ := HRG.out _ (HB.out.step HB4.out); cases hga; clear hb4))
                  go_ret
                  exact ⟨ret_bool HYES.out.symm, HB.out.step HB4.out⟩
                | false =>
                  rw [hgp] at HONE
                  replace HONE := hid (HONE.out.trans rfl : L1 = false)
                  replace HNO := hid (HNO.out HONE.out)
                  clear HYES HONE
                  go_wp2_with (first
                    | (go_at_call 122; refine (HRS.out _).mono ?_; rintro e w3 ⟨rfl, hb3⟩; have HB3 := hid (HBX.out.step hb3); have HW3 := hid (HK.out.2.step HB3.out); obtain ⟨y0, y1, y2, y3, y4, y5, y6⟩ := box7 (keepBox HW3.out HX.out); clear hb3)
                    | (go_at_call 180; refine (HGT.out _ (HB.out.step HW3.out)).mono ?_; rintro e w4 ⟨rfl, hb4⟩; have HB4 := hid (HW3.out.step hb4); obtain ⟨z0, z1, z2, z3, z4, z5, z6⟩ := box7 (keepBox HB4.out HX.out); obtain ⟨gb, go, hga, hltg, e0, e1, e2⟩ := HRG.out _ (HB.out.step HB4.out); cases hga; clear hb4))
                  go_roundg (u.code.length - (t + 1))
                  case measure => omega
                  case rel => exact ⟨t + 1, by omega, rfl, by go_num, hid ⟨HNO.out, HB4.out⟩⟩
        · by_cases h32 : op = 32
          · subst h32
            have hpo : po = some b := HPO.out
            clear HPO
            subst hpo
            replace HONE : Hid (L1 = ((b == p) || (br && decide (0 ≤ q) && (u.guards.getD q.toNat grd0).at' == p))) := hid HONE.out
            cases hap : (b == p) with
            | true =>
              rw [hap, Bool.true_or] at HONE
              replace HYES := hid (HYES.out HONE.out)
              clear HNO HONE
              go_wp2
              go_ret
              exact ⟨ret_bool HYES.out.symm, HB.out.step (HK.out.2.step HBX.out)⟩
            | false =>
              rw [hap, Bool.false_or] at HONE
              cases br with
              | false =>
                replace HONE := hid (HONE.out.trans rfl : L1 = false)
                replace HNO := hid (HNO.out HONE.out)
                clear HYES HONE
                go_wp2_with (first
                  | (go_at_call 122; refine (HRS.out _).mono ?_; rintro e w3 ⟨rfl, hb3⟩; have HB3 := hid (HBX.out.step hb3); have HW3 := hid (HK.out.2.step HB3.out); obtain ⟨y0, y1, y2, y3, y4, y5, y6⟩ := box7 (keepBox HW3.out HX.out); clear hb3)
                  | (go_at_call 180; refine (HGT.out _ (HB.out.step HW3.out)).mono ?_; rintro e w4 ⟨rfl, hb4⟩; have HB4 := hid (HW3.out.step hb4); obtain ⟨z0, z1, z2, z3, z4, z5, z6⟩ := box7 (keepBox HB4.out HX.out); clear hb4))
                go_roundg (u.code.length - (t + 1))
                case measure => omega
                case rel => exact ⟨t + 1, by omega, rfl, by go_num, hid ⟨HNO.out, HB4.out⟩⟩
              | true =>
                rcases hq with rfl | ⟨m, rfl, hm2⟩
                · replace HONE := hid (HONE.out.trans rfl : L1 = false)
                  replace HNO := hid (HNO.out HONE.out)
                  clear HYES HONE
                  go_wp2_with (first
                    | (go_at_call 122; refine (HRS.out _).mono ?_; rintro e w3 ⟨rfl, hb3⟩; have HB3 := hid (HBX.out.step hb3); have HW3 := hid (HK.out.2.step HB3.out); obtain ⟨y0, y1, y2, y3, y4, y5, y6⟩ := box7 (keepBox HW3.out HX.out); clear hb3)
                    | (go_at_call 180; refine (HGT.out _ (HB.out.step HW3.out)).mono ?_; rintro e w4 ⟨rfl, hb4⟩; have HB4 := hid (HW3.out.step hb4); obtain ⟨z0, z1, z2, z3, z4, z5, z6⟩ := box7 (keepBox HB4.out HX.out); clear hb4))
                  go_roundg (u.code.length - (t + 1))
                  case measure => omega
                  case rel => exact ⟨t + 1, by omega, rfl, by go_num, hid ⟨HNO.out, HB4.out⟩⟩
                · have nm : (m : Int) < (u.guards.length : Int) := by omega
                  have nm0 : (0 : Int) ≤ (m : Int) := by omega
                  have HRG := hid (fun wx (hb : Below w.heap.size w wx) => (HM.out.rg.below hb) m hm2)
                  rw [Int.toNat_natCast, getD_in hm2, decide_eq_true nm0] at HONE
                  generalize u.guards[m] = g at *
                  obtain ⟨gf, gt, gA⟩ := g
                  dsimp only at HONE HRG
                  obtain ⟨gb0, go0, hga0, -⟩ := HRG.out w (Below.refl _ _)
                  subst hga0
                  cases hgp : (gA == p) with
                  | true =>
                    rw [hgp] at HONE
                    replace HYES := hid (HYES.out HONE.out)
                    clear HNO HONE
                    go_wp2_with (first
                      | (go_at_call 122; refine (HRS.out _).mono ?_; rintro e w3 ⟨rfl, hb3⟩; have HB3 := hid (HBX.out.step hb3); have HW3 := hid (HK.out.2.step HB3.out); obtain ⟨y0, y1, y2, y3, y4, y5, y6⟩ := box7 (keepBox HW3.out HX.out); clear hb3)
                      | (go_at_call 180; refine (HGT.out _ (HB.out.step HW3.out)).mono ?_; rintro e w4 ⟨rfl, hb4⟩; have HB4 := hid (HW3.out.step hb4); obtain ⟨z0, z1, z2, z3, z4, z5, z6⟩ := box7 (keepBox HB4.out HX.out); obtain ⟨gb, go, hga, hltg, e0, e1, e2⟩ := HRG.out _ (HB.out.step HB4.out); cases hga; clear hb4))
                    go_ret
                    exact ⟨ret_bool HYES.out.symm, HB.out.step HB4.out⟩
                  | false =>
                    rw [hgp] at HONE
                    replace HONE := hid (HONE.out.trans rfl : L1 = false)
                    replace HNO := hid (HNO.out HONE.out)
                    clear HYES HONE
                    go_wp2_with (first
                      | (go_at_call 122; refine (HRS.out _).mono ?_; rintro e w3 ⟨rfl, hb3⟩; have HB3 := hid (HBX.out.step hb3); have HW3 := hid (HK.out.2.step HB3.out); obtain ⟨y0, y1, y2, y3, y4, y5, y6⟩ := box7 (keepBox HW3.out HX.out); clear hb3)
                      | (go_at_call 180; refine (HGT.out _ (HB.out.step HW3.out)).mono ?_; rintro e w4 ⟨rfl, hb4⟩; have HB4 := hid (HW3.out.step hb4); obtain ⟨z0, z1, z2, z3, z4, z5, z6⟩ := box7 (keepBox HB4.out HX.out); obtain ⟨gb, go, hga, hltg, e0, e1, e2⟩ := HRG.out _ (HB.out.step HB4.out); cases hga; clear hb4))
                    go_roundg (u.code.length - (t + 1))
                    case measure => omega
                    case rel => exact ⟨t + 1, by omega, rfl, by go_num, hid ⟨HNO.out, HB4.out⟩⟩
          · have d24 : (op == 24) = false := by simpa using h24
            have d25 : (op == 25) = false := by simpa using h25
            have d32 : (op == 32) = false := by simpa using h32
            have hpo : po = none := by rw [HPO.out, d24, d25, d32]; rfl
            clear HPO h24 h25 h32
            subst hpo
            replace HONE : Hid (L1 = (br && decide (0 ≤ q) && (u.guards.getD q.toNat grd0).at' == p)) := hid (HONE.out.trans (Bool.false_or _))
            cases br with
            | false =>
              replace HONE := hid (HONE.out.trans rfl : L1 = false)
              replace HNO := hid (HNO.out HONE.out)
              clear HYES HONE
              go_wp2_with (first
                | (go_at_call 122; refine (HRS.out _).mono ?_; rintro e w3 ⟨rfl, hb3⟩; have HB3 := hid (HBX.out.step hb3); have HW3 := hid (HK.out.2.step HB3.out); obtain ⟨y0, y1, y2, y3, y4, y5, y6⟩ := box7 (keepBox HW3.out HX.out); clear hb3)
                | (go_at_call 180; refine (HGT.out _ (HB.out.step HW3.out)).mono ?_; rintro e w4 ⟨rfl, hb4⟩; have HB4 := hid (HW3.out.step hb4); obtain ⟨z0, z1, z2, z3, z4, z5, z6⟩ := box7 (keepBox HB4.out HX.out); clear hb4))
              go_roundg (u.code.length - (t + 1))
              case measure => omega
              case rel => exact ⟨t + 1, by omega, rfl, by go_num, hid ⟨HNO.out, HB4.out⟩⟩
            | true =>
              rcases hq with rfl | ⟨m, rfl, hm2⟩
              · replace HONE := hid (HONE.out.trans rfl : L1 = false)
                replace HNO := hid (HNO.out HONE.out)
                clear HYES HONE
                go_wp2_with (first
                  | (go_at_call 122; refine (HRS.out _).mono ?_; rintro e w3 ⟨rfl, hb3⟩; have HB3 := hid (HBX.out.step hb3); have HW3 := hid (HK.out.2.step HB3.out); obtain ⟨y0, y1, y2, y3, y4, y5, y6⟩ := box7 (keepBox HW3.out HX.out); clear hb3)
                  | (go_at_call 180; refine (HGT.out _ (HB.out.step HW3.out)).mono ?_; rintro e w4 ⟨rfl, hb4⟩; have HB4 := hid (HW3.out.step hb4); obtain ⟨z0, z1, z2, z3, z4, z5, z6⟩ := box7 (keepBox HB4.out HX.out); clear hb4))
                go_roundg (u.code.length - (t + 1))
                case measure => omega
                case rel => exact ⟨t + 1, by omega, rfl, by go_num, hid ⟨HNO.out, HB4.out⟩⟩
              · have nm : (m : Int) < (u.guards.length : Int) := by omega
                have nm0 : (0 : Int) ≤ (m : Int) := by omega
                have HRG := hid (fun wx (hb : Below w.heap.size w wx) => (HM.out.rg.below hb) m hm2)
                rw [Int.toNat_natCast, getD_in hm2, decide_eq_true nm0] at HONE
                generalize u.guards[m] = g at *
                obtain ⟨gf, gt, gA⟩ := g
                dsimp only at HONE HRG
                obtain ⟨gb0, go0, hga0, -⟩ := HRG.out w (Below.refl _ _)
                subst hga0
                cases hgp : (gA == p) with
                | true =>
                  rw [hgp] at HONE
                  replace HYES := hid (HYES.out HONE.out)
                  clear HNO HONE
                  go_wp2_with (first
                    | (go_at_call 122; refine (HRS.out _).mono ?_; rintro e w3 ⟨rfl, hb3⟩; have HB3 := hid (HBX.out.step hb3); have HW3 := hid (HK.out.2.step HB3.out); obtain ⟨y0, y1, y2, y3, y4, y5, y6⟩ := box7 (keepBox HW3.out HX.out); clear hb3)
                    | (go_at_call 180; refine (HGT.out _ (HB.out.step HW3.out)).mono ?_; rintro e w4 ⟨rfl, hb4⟩; have HB4 := hid (HW3.out.step hb4); obtain ⟨z0, z1, z2, z3, z4, z5, z6⟩ := box7 (keepBox HB4.out HX.out); obtain ⟨gb, go, hga, hltg, e0, e1, e2⟩ := HRG.out _ (HB.out.step HB4.out); cases hga; clear hb4))
                  go_ret
                  exact ⟨ret_bool HYES.out.symm, HB.out.step HB4.out⟩
                | false =>
                  rw [hgp] at HONE
                  replace HONE := hid (HONE.out.trans rfl : L1 = false)
                  replace HNO := hid (HNO.out HONE.out)
                  clear HYES HONE
                  go_wp2_with (first
                    | (go_at_call 122; refine (HRS.out _).mono ?_; rintro e w3 ⟨rfl, hb3⟩; have HB3 := hid (HBX.out.step hb3); have HW3 := hid (HK.out.2.step HB3.out); obtain ⟨y0, y1, y2, y3, y4, y5, y6⟩ := box7 (keepBox HW3.out HX.out); clear hb3)
                    | (go_at_call 180; refine (HGT.out _ (HB.out.step HW3.out)).mono ?_; rintro e w4 ⟨rfl, hb4⟩; have HB4 := hid (HW3.out.step hb4); obtain ⟨z0, z1, z2, z3, z4, z5, z6⟩ := box7 (keepBox HB4.out HX.out); obtain ⟨gb, go, hga, hltg, e0, e1, e2⟩ := HRG.out _ (HB.out.step HB4.out); cases hga; clear hb4))
                  go_roundg (u.code.length - (t + 1))
                  case measure => omega
                  case rel => exact ⟨t + 1, by omega, rfl, by go_num, hid ⟨HNO.out, HB4.out⟩⟩
    · obtain rfl : t = u.code.length := by omega
      have nt : ¬ (u.code.length : Int) < (u.code.length : Int) := by omega
      have HF : Hid (Q = false) := hid (by
        rw [HLED.out]
        cases h : (List.range u.code.length).any (ledOne u p) with
        | false => rfl
        | true =>
          obtain ⟨k, hk, e⟩ := List.any_eq_true.1 h
          rw [HK.out.1 k (List.mem_range.1 hk)] at e
          cases e)
      go_wp2
      go_ret
      exact ⟨ret_bool HF.out.symm, HB.out.step HK.out.2⟩
end Go.Proofs.YtgalekifgnecjaaGreat
