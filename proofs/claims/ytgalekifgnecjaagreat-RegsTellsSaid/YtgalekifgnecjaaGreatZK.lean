/- The reference of layer 8: Live. The reference of layer 16: groups. -/
import Derived.Test.YtgalekifgnecjaaGreatZJ
import Derived.Test.YtgalekifgnecjaaGreatX1
namespace Go.Proofs.YtgalekifgnecjaaGreat
open Go.RowKit

open Go.RowKit Go.Shelf
attribute [local go_sem] Oper.semAt_some
attribute [local irreducible] wpStill
theorem info28r : (Tryz.prog.info? 28).map (fun i => (i.zero, i.size, i.bytes)) = some (some (.slice none 0 0), 1, 24) := by kernel_rfl
structure LrO (u : UntN) (ca : Option Addr) (cc : Nat) (ga : Option Addr) (gc : Nat) (w : World) (b : Nat) (s : List (List Int)) (wr : World) : Prop where
  hb : Below w.heap.size w wr
  hu : wr.heap[w.heap.size]? = some (oU u ca cc ga gc)
  nd : NdB wr b s
  lv : LvI u s
  ge : w.heap.size < b
theorem LrO.below {u : UntN} {ca : Option Addr} {cc : Nat} {ga : Option Addr} {gc : Nat} {w : World} {b : Nat} {s : List (List Int)} {wr w' : World} (h : LrO u ca cc ga gc w b s wr) (hb : Below wr.heap.size wr w') : LrO u ca cc ga gc w b s w' :=
  ⟨h.hb.step hb, keepBox hb h.hu, h.nd.below hb, h.lv, h.ge⟩
def LrRet (L : List (List Int)) (w : World) (e : Ending) (w' : World) : Prop := Below w.heap.size w w' ∧ ∃ a c, e = .returned (.slice a L.length c) ∧ RdM w' a L
theorem LvI.rowLen {u : UntN} {s : List (List Int)} (h : LvI u s) (hn : u.code.length ≤ 600) (t : Nat) : (s.getD t []).length ≤ 1200 := by
  have h1 := nodup_sub_len (h.nd t) (h.sub t)
  have h2 := nodup_sub_len (sorted_nodup ((live_good u).so t)) (fun x hx => (live_good u).un t x hx)
  have h3 := univ_len u
  omega
theorem lvFold_len (L : List (List Int)) (w : Int) (hL : ∀ t, (L.getD t []).length ≤ 1200) : ∀ (bs l : List Int), (bs.foldl (lvJump L w) l).length ≤ l.length + 1200 * bs.length
  | [], l => by simp
  | b :: bs, l => by
    rw [List.foldl_cons, List.length_cons]
    have h1 := lvFold_len L w hL bs (lvJump L w l b)
    have h2 := addL_len l ((L.getD b.toNat []).filter fun m => m != w)
    have h3 := List.length_filter_le (fun m => m != w) (L.getD b.toNat [])
    have h4 := hL b.toNat
    unfold lvJump at h1 ⊢
    omega
theorem addL_snoc1 (l m : List Int) (y : Int) : addL l (m ++ [y]) = addL (addL l m) [y] := by unfold addL; rw [List.foldl_append]
theorem foldl_snoc1 {α β : Type} (f : α → β → α) (a : α) (l : List β) (y : β) : (l ++ [y]).foldl f a = f (l.foldl f a) y := by rw [List.foldl_append]; rfl
theorem filter_snoc1 (p : Int → Bool) (l : List Int) (y : Int) : (l ++ [y]).filter p = if p y = true then l.filter p ++ [y] else l.filter p := by
  rw [List.filter_append, List.filter_cons]
  split
  · rfl
  · simp
theorem plain_grdAt {u : UntN} (h : plainB u = true) {g : GrdN} (hg : g ∈ u.guards) : 0 ≤ g.at' ∧ g.at' < u.code.length := by
  unfold plainB at h
  simp only [Bool.and_eq_true, List.all_eq_true] at h
  have h1 := h.2 g hg
  unfold plainGrd inN at h1
  simp at h1
  omega
theorem NdB.row {w : World} {b : Nat} {s : List (List Int)} (h : NdB w b s) {k : Nat} (hk : k < s.length) : ∃ la lc, w.cell? ⟨b, k, none⟩ = some (.slice la (s.getD k []).length lc) ∧ RdI w la (s.getD k []) := by
  obtain ⟨b1, o1, e, _, la, lc, hc, hr⟩ := RdM.row h.rdm hk
  injection e with e
  cases e
  rw [Nat.zero_add] at hc
  exact ⟨la, lc, hc, hr⟩
/-- How far a round over all instructions has come. -/
def LrM (u : UntN) (s : List (List Int)) (c : Bool) : Nat := if c = true then totalL (liveL u) - totalL s + 1 else 0
structure LrT (u : UntN) (s : List (List Int)) (t : Nat) (s2 : List (List Int)) (c2 : Bool) : Prop where
  no : c2 = false → s2 = s ∧ ∀ k, t ≤ k → k < u.code.length → (lvNow u s k).length = (s.getD k []).length
  yes : c2 = true → totalL s + 1 ≤ totalL s2
theorem LrT.first (u : UntN) (s : List (List Int)) : LrT u s u.code.length s false := ⟨fun _ => ⟨rfl, fun k h1 h2 => by omega⟩, fun h => by cases h⟩
theorem LrT.stay {u : UntN} {s s2 : List (List Int)} {k : Nat} {c2 : Bool} (h : LrT u s (k + 1) s2 c2) (hne : (lvNow u s2 k).length = (s2.getD k []).length) : LrT u s k s2 c2 := by
  refine ⟨fun e => ?_, h.yes⟩
  obtain ⟨h1, h2⟩ := h.no e
  refine ⟨h1, fun j g1 g2 => ?_⟩
  by_cases ej : j = k
  · subst ej; rw [← h1]; exact hne
  · exact h2 j (by omega) g2
theorem LrT.step {u : UntN} {s s2 : List (List Int)} {k : Nat} {c2 : Bool} (h : LrT u s (k + 1) s2 c2) (hk : k < s2.length) (hne : (lvNow u s2 k).length ≠ (s2.getD k []).length) : LrT u s k (s2.set k (lvNow u s2 k)) true := by
  refine ⟨fun e => (by cases e), fun _ => ?_⟩
  have h1 := lvNow_grow (u := u) (s := s2) hk hne
  cases c2 with
  | false => have := (h.no rfl).1; subst this; exact h1
  | true => have := h.yes rfl; omega
theorem LrT.less {u : UntN} {s s2 : List (List Int)} {c2 : Bool} (h : LrT u s 0 s2 c2) (hl : LvI u s2) : LrM u s2 c2 < LrM u s true := by
  unfold LrM
  rw [if_pos rfl]
  cases c2 with
  | false => simp
  | true =>
    rw [if_pos rfl]
    have h1 := h.yes rfl
    have h2 := hl.total
    omega
/-- The rows when some of them are sorted. -/
def srtTo (u : UntN) (s : List (List Int)) (j : Nat) : List (List Int) := (liveL u).take j ++ s.drop j
theorem srtTo_len {u : UntN} {s : List (List Int)} (hs : s.length = (liveL u).length) {j : Nat} (hj : j ≤ s.length) : (srtTo u s j).length = s.length := by
  unfold srtTo
  rw [List.length_append, List.length_take, List.length_drop]
  omega
theorem srtTo_at {u : UntN} {s : List (List Int)} (hs : s.length = (liveL u).length) {j : Nat} (hj : j < s.length) : (srtTo u s j).getD j [] = s.getD j [] := by
  unfold srtTo
  rw [List.getD_eq_getElem?_getD, List.getD_eq_getElem?_getD, List.getElem?_append_right (by rw [List.length_take]; omega), List.getElem?_drop, List.length_take]
  congr 2
  omega
theorem srtTo_set {u : UntN} {s : List (List Int)} (hs : s.length = (liveL u).length) {j : Nat} (hj : j < s.length) : (srtTo u s j).set j ((liveL u).getD j []) = srtTo u s (j + 1) := by
  apply List.ext_getElem?
  intro i
  have hl : (srtTo u s j).length = s.length := srtTo_len hs (by omega)
  rw [List.getElem?_set, hl]
  have e : ∀ m, m ≤ s.length → ∀ i, (srtTo u s m)[i]? = if i < m then (liveL u)[i]? else s[i]? := by
    intro m hm i
    unfold srtTo
    by_cases hi : i < m
    · rw [if_pos hi, List.getElem?_append_left (by rw [List.length_take]; omega), List.getElem?_take, if_pos hi]
    · rw [if_neg hi, List.getElem?_append_right (by rw [List.length_take]; omega), List.getElem?_drop, List.length_take]
      congr 1
      omega
  rw [e j (by omega), e (j + 1) (by omega)]
  by_cases h1 : j = i
  · subst h1
    rw [if_pos rfl, if_pos hj, if_pos (by omega), getD_in (by omega), List.getElem?_eq_getElem (by omega)]
  · rw [if_neg h1]
    by_cases h2 : i < j
    · rw [if_pos h2, if_pos (by omega)]
    · rw [if_neg h2, if_neg (by omega)]
theorem srtTo_all {u : UntN} {s : List (List Int)} (hs : s.length = (liveL u).length) : srtTo u s s.length = liveL u := by
  unfold srtTo
  rw [hs, List.take_length, ← hs, List.drop_length, List.append_nil]
theorem srt_row {u : UntN} {s : List (List Int)} (hp : plainB u = true) (h : LvI u s) (hn : ∀ t, t < u.code.length → (lvNow u s t).length = (s.getD t []).length) {t : Nat} {l : List Int} (h1 : l.Perm (s.getD t [])) (h2 : l.Pairwise (· < ·)) : l = (liveL u).getD t [] :=
  sorted_ext h2 ((live_good u).so t) (fun x => (h1.mem_iff).trans (h.done hp hn t x))
set_option maxRecDepth 100000 in
set_option maxHeartbeats 20000000 in
theorem live58 (u : UntN) (ca : Option Addr) (cc : Nat) (ga : Option Addr) (gc : Nat) (w : World) (hm : UnM w u ca cc ga gc) (hp : plainB u = true) :
    Calls Tryz.prog 58 #[vU u ca cc ga gc] w (LrRet (liveL u) w) := by
  obtain ⟨hn0, hn6, hg4, -⟩ := plain_leads hp
  have HM := hid hm; clear hm
  have HPL := hid (fun w' hb => plain61 u ca cc ga gc w' (HM.out.below hb) (by omega) (by omega))
  rw [hp] at HPL
  have HBI := hid (fun t (ht : t < u.code.length) => bySelf_in hp ht)
  have HPG := hid (fun g hg => plain_grdAt hp (g := g) hg)
  have HSR := hid (fun s (h : LvI u s) hn t l h1 h2 => srt_row (u := u) (s := s) hp h hn (t := t) (l := l) h1 h2)
  have HST := hid (fun s (h : LvI u s) t ht => LvI.step (u := u) (s := s) hp h (t := t) ht)
  have HLL : Hid ((liveL u).length = u.code.length) := hid (live_good u).len
  clear hp
  have hmk := fun w => run_make_row' (P := Tryz.prog) 95 28 (.slice none 0 0) 24 Tryz.underlying95 info28r rfl .i64 .i64 u.code.length (by omega) (by omega) w
  have HMD := hid (fun w => nd_made w u.code.length)
  obtain ⟨M, hM⟩ : ∃ M, M = madeCells #[.slice none 0 0] u.code.length := ⟨_, rfl⟩
  rw [← hM] at hmk HMD
  clear hM
  have HX1 := hid (heapn w (oU u ca cc ga gc) _ rfl)
  have HB := hid (bnew w (oU u ca cc ga gc))
  go_enter Tryz.func58, Tryz.ntmps58
  go_upto_region 1 with fail
  obtain ⟨w1, hw1⟩ : ∃ w1, w1 = w.alloc (oU u ca cc ga gc) := ⟨_, rfl⟩
  rw [← hw1] at HX1 HB
  rw [← hw1]
  clear hw1
  obtain ⟨k0, k1, k2, k3, k4, k5, k6⟩ := box7 HX1.out
  go_upto_region 3 with (first
    | (go_at_call 61; (with_reducible refine (HPL.out _ HB.out).mono ?_); rintro e w2 ⟨rfl, hb⟩; obtain ⟨j0, j1, j2, j3, j4, j5, j6⟩ := box7 (keepBox hb HX1.out); have HX2 := hid (keepBox hb HX1.out); have HB2 := hid (HB.out.step hb); clear hb))
  clear k0 k1 k2 k3 k4 k5 k6
  have hlt := lt_of_heap HX2.out
  have HL0 : Hid (LrO u ca cc ga gc w w2.heap.size (List.replicate u.code.length []) (w2.alloc (.cells M 28))) := hid ⟨HB2.out.step (bnew _ _), keepBox (bnew _ _) HX2.out, HMD.out w2, LvI.first u, hlt⟩
  go_upto_region 5 with fail
  obtain ⟨bA, hbA⟩ : ∃ b, b = w2.heap.size := ⟨_, rfl⟩
  obtain ⟨wa, hwa⟩ : ∃ wa, wa = w2.alloc (.cells M 28) := ⟨_, rfl⟩
  rw [← hbA, ← hwa] at HL0
  rw [← hbA, ← hwa]
  clear hwa hbA hlt j0 j1 j2 j3 j4 j5 j6 hmk HMD HPL
  go_wp2
  go_loopg [5] (0 + LrM u (List.replicate u.code.length []) true) (fun gh s5 wr => ∃ (s : List (List Int)) (ch : Bool), gh = 0 + LrM u s ch ∧ s5 = .bool ch ∧ Hid (LrO u ca cc ga gc w bA s wr) ∧ Hid (ch = false → ∀ t, t < u.code.length → (lvNow u s t).length = (s.getD t []).length))
  case atStart => exact ⟨_, true, rfl, rfl, HL0, hid (fun e => by cases e)⟩
  case round =>
    obtain ⟨s, ch, rfl, rfl, HL, HF⟩ := hrel
    cases ch with
    | false =>
      have HNO := hid (HF.out rfl)
      have HSL := hid HL.out.lv.len
      have HND := hid HL.out.lv.nd
      have HSS := hid (fun t l h1 h2 => HSR.out s HL.out.lv HNO.out t l h1 h2)
      have HRL := hid (HL.out.lv.rowLen hn6)
      have HGE := hid HL.out.ge
      clear HF HNO HSR HST HBI HPG
      go_wp2
      go_loopg [17] u.code.length (fun gh s17 wr => ∃ j : Nat, j ≤ u.code.length ∧ gh = u.code.length - j ∧ s17 = .int .i64 j ∧ Hid (Below w.heap.size w wr ∧ NdB wr bA (srtTo u s j)))
      case atStart => exact ⟨0, Nat.zero_le _, rfl, rfl, hid ⟨HL.out.hb, HL.out.nd⟩⟩
      case round =>
        obtain ⟨j, hj, rfl, rfl, HK⟩ := hrel
        have HTL := hid (srtTo_len (u := u) (s := s) (by rw [HSL.out, HLL.out]) (j := j) (by rw [HSL.out]; exact hj))
        by_cases hlj : j < u.code.length
        · have nj : (j : Int) < (u.code.length : Int) := by omega
          have hjs : j < s.length := by rw [HSL.out]; exact hlj
          have HAT := hid (srtTo_at (u := u) (s := s) (by rw [HSL.out, HLL.out]) hjs)
          have HSE := hid (srtTo_set (u := u) (s := s) (by rw [HSL.out, HLL.out]) hjs)
          obtain ⟨la, lc, hc, hr⟩ := HK.out.2.row (k := j) (by rw [HTL.out]; exact hjs)
          rw [HAT.out] at hc hr
          have HSO := hid (sorted123 (s.getD j []) (HND.out j) la lc wr hr (by have := HRL.out j; omega))
          have HSJ := hid (HSS.out j)
          have HCU := hid HK.out.2
          clear hr
          generalize s.getD j [] = L at *
          obtain ⟨cur, hcur, -, -⟩ := HK.out.2
          have fA := boxF j hcur
          go_wp2_with (go_at_call 123; (with_reducible refine HSO.out.mono ?_); rintro e w5 ⟨hb5, v5, l5, rfl, hv5, hp5, hs5⟩; obtain ⟨a5, c5, rfl, -, -, -⟩ := hv5.ex; have HB5 := hid hb5; have HV5 := hid hv5; have HQ5 := hid (HSJ.out l5 hp5 hs5); have fB := boxF j (keepBox hb5 hcur); have hc5 := cell_later hb5 hc; clear hb5 hv5 hp5 hs5)
          go_roundg (u.code.length - (j + 1))
          case measure => omega
          case rel => exact ⟨j + 1, by omega, rfl, by go_num, hid ⟨(HK.out.1.step HB5.out).setCell (p := ⟨bA, j, none⟩) (by show w.heap.size ≤ bA; have := HGE.out; omega) _, by rw [← HSE.out, ← HQ5.out]; exact (HCU.out.below HB5.out).set (by rw [HTL.out]; exact hjs) HV5.out⟩⟩
        · obtain rfl : j = u.code.length := by omega
          have nj : ¬ (u.code.length : Int) < (u.code.length : Int) := by omega
          have HAL := hid (srtTo_all (u := u) (s := s) (by rw [HSL.out, HLL.out]))
          rw [HSL.out] at HAL
          rw [HAL.out] at HK
          go_wp2
          go_ret
          exact ⟨HK.out.1, some ⟨bA, 0, none⟩, u.code.length, by rw [HLL.out]; rfl, HK.out.2.rdm⟩
    | true =>
      have hn1 : (1 : Int) ≤ (u.code.length : Int) := by omega
      clear HF
      go_upto_region 8 with fail
      go_wp2
      go_loopg [5, 6] (0 + u.code.length) (fun gh s5 s6 wr => ∃ (t : Nat) (x : Int) (s2 : List (List Int)) (c2 : Bool), gh = 0 + t ∧ t ≤ u.code.length ∧ x + 1 = (t : Int) ∧ s6 = .int .i64 x ∧ s5 = .bool c2 ∧ Hid (LrO u ca cc ga gc w bA s2 wr) ∧ Hid (LrT u s t s2 c2))
      case atStart => exact ⟨u.code.length, _, s, false, by omega, Nat.le_refl _, by omega, rfl, rfl, HL, hid (LrT.first u s)⟩
      case round =>
        obtain ⟨t, x, s2, c2, rfl, ht, hx, rfl, rfl, HL2, HE⟩ := hrel
        cases t with
        | zero =>
          have nx : ¬ (0 : Int) ≤ x := by omega
          have hless := HE.out.less HL2.out.lv
          have HF2 : Hid (c2 = false → ∀ t, t < u.code.length → (lvNow u s2 t).length = (s2.getD t []).length) := hid (fun e t ht => by
            obtain ⟨h1, h2⟩ := HE.out.no e
            rw [h1]
            exact h2 t (Nat.zero_le _) ht)
          go_wp2
          go_roundg (0 + LrM u s2 c2)
          case measure => omega
          case rel => exact ⟨s2, c2, rfl, rfl, HL2, HF2⟩
        | succ k =>
          obtain rfl : x = (k : Int) := by omega
          have nx : (0 : Int) ≤ (k : Int) := by omega
          have hk : k < u.code.length := by omega
          have hkn : (k : Int) < (u.code.length : Int) := by omega
          have hk6 : (k : Int) ≤ 600 := by omega
          have hks : k < s2.length := by have := HL2.out.lv.len; omega
          obtain ⟨W0, rfl⟩ : ∃ W0, W0 = wr := ⟨_, rfl⟩
          obtain ⟨la, lc, hcN, hrN⟩ := HL2.out.nd.row hks
          have HRL := hid (fun t => HL2.out.lv.rowLen hn6 t)
          have HL0L : Hid ((s2.getD k []).length ≤ 1200) := hid (HRL.out k)
          have HNW : Hid (lvNow u s2 k = addL ((bySelf u k).foldl (lvJump s2 (writesI (u.code.getD k ins0))) (addL (s2.getD k []) (readsL (u.code.getD k ins0)))) (lvGrd u s2 k)) := hid rfl
          have HGR : Hid (lvGrd u s2 k = if (raisesB (u.code.getD k ins0) && decide (0 ≤ guardL u k)) = true then s2.getD (u.guards.getD (guardL u k).toNat grd0).at'.toNat [] else []) := hid rfl
          rw [getD_in hk] at HNW HGR
          have HRD := hid (reads115 u.code[k])
          have HWR := hid (writes82 u.code[k])
          have HRS := hid (raises122 u.code[k])
          have HBY := hid (fun wx (hb : Below w.heap.size w wx) => by120 u k hk hn6 ca cc ga gc wx (HM.out.rc.below hb))
          have HGD := hid (fun wx (hb : Below w.heap.size w wx) => guard121 u k ca cc ga gc wx (HM.out.rg.below hb) (by omega))
          have HR2 := hid (readsL_len u.code[k])
          have HBL := hid (bySelf_len u k)
          have HBIN := hid (HBI.out k hk)
          have HSTAY := hid (fun (e : (lvNow u s2 k).length = (s2.getD k []).length) => HE.out.stay e)
          have HSTEP := hid (fun (e : (lvNow u s2 k).length ≠ (s2.getD k []).length) => HE.out.step hks e)
          have HSTL := hid (HST.out s2 HL2.out.lv k hk)
          have HIC := hid (fun wx (hb : Below w.heap.size w wx) => (HM.out.rc.below hb) k hk)
          have hq : guardL u k = -1 ∨ ∃ m : Nat, guardL u k = m ∧ m < u.guards.length := by
            have h := idxP_lt (guardIn (k : Int)) u.guards
            have e : guardL u k = idxP (guardIn (k : Int)) u.guards := rfl
            by_cases h0 : guardL u k = -1
            · exact .inl h0
            · exact .inr ⟨(guardL u k).toNat, by omega, by omega⟩
          have HQ := hid hq
          clear hq HE
          generalize guardL u k = q at *
          generalize bySelf u k = B at *
          generalize lvGrd u s2 k = G at *
          generalize lvNow u s2 k = NW at *
          generalize u.code[k] = i at *
          generalize readsL i = R at *
          generalize writesI i = WI at *
          generalize raisesB i = br at *
          obtain ⟨L0, hL0⟩ : ∃ L, L = s2.getD k [] := ⟨_, rfl⟩
          rw [← hL0] at hcN hrN HL0L HNW HSTAY HSTEP
          have HEL := hid hL0
          clear hL0
          have HUX := hid (fun wx (hb : Below W0.heap.size W0 wx) => keepBox hb HL2.out.hu)
          have HCN := hid (fun wx (hb : Below W0.heap.size W0 wx) => cell_later hb hcN)
          have hcNa := HCN.out _ (bnew W0 (.cells #[] 3))
          obtain ⟨bc, oc, hca, hlc, c0, c1, c2, c3⟩ := HIC.out _ HL2.out.hb
          subst hca
          clear c0 c1 c2 c3 hlc
          go_upto_region 13 with (first
            | (at_builtin; refine wpList_append_ints _ rfl _ _ rfl W0.heap.size _ [] L0 rfl (OwnI.none (Nat.le_refl _) (heapn _ _ _ rfl)) la lc rfl (hrN.below (bnew _ _)) (by simp; have := HL0L.out; omega) (by simp) ?_; intro v1 w3 hown1 hg1 hat1; have HO1 : Hid (OwnI w3 W0.heap.size v1 L0) := hid (by simpa using hown1); have HB1 : Hid (Below W0.heap.size W0 w3) := hid (Below.grown (bnew _ _) hg1 (by simp) (own_ge (OwnI.none (base := W0.heap.size) (w := W0.alloc (.cells #[] 3)) (Nat.le_refl _) (heapn _ _ _ rfl)))); clear hown1 hg1 hat1; obtain ⟨k0, k1, k2, k3, k4, k5, k6⟩ := box7 (HUX.out _ HB1.out); obtain ⟨b3, o3, e3, hl3, c0, c1, c2, c3⟩ := HIC.out _ (HL2.out.hb.step HB1.out); cases e3)
            | (go_at_call 115; (with_reducible refine (HRD.out _).mono ?_); rintro e w4 ⟨hb4, v4, rfl, ho4⟩; have HB4 := hid hb4; have HO4 := hid ho4; clear hb4 ho4))
          clear k0 k1 k2 k3 k4 k5 k6 c0 c1 c2 c3 hl3 hcNa
          obtain ⟨ra, rc, rfl, hgi⟩ := GrI.of HO1.out HB4.out HO4.out (Nat.le_refl _)
          have HGI := hid hgi
          have HBW := hid (HB1.out.step HB4.out)
          clear hgi HO1 HB1 HO4 HB4 hrN hcN
          have hr2 := HR2.out
          have hl0 := HL0L.out
          have hbl := HBL.out
          go_wp2
          go_loopg [7, 9] R.length (fun gh s7 s9 wr => ∃ j : Nat, j ≤ R.length ∧ gh = R.length - j ∧ s9 = .int .i64 j ∧ Hid (GrI W0.heap.size ra R wr s7 (addL L0 (R.take j)) ∧ Below W0.heap.size W0 wr))
          case atStart => exact ⟨0, Nat.zero_le _, rfl, rfl, hid ⟨HGI.out, HBW.out⟩⟩
          case round =>
            clear HGI HBW
            obtain ⟨j, hj, rfl, rfl, HK⟩ := hrel
            by_cases hlj : j < R.length
            · obtain ⟨rb, ro, hra, hltr, h0⟩ := HK.out.1.rd j hlj
              subst hra
              have nj : (j : Int) < (R.length : Int) := by omega
              have HT : Hid (R.take (j + 1) = R.take j ++ [R[j]]) := hid (take_last hlj)
              have HSN := hid (addL_snoc1 L0 (R.take j) R[j])
              rw [← HT.out] at HSN
              have hln := addL_len L0 (R.take j)
              rw [List.length_take, Nat.min_eq_left hj] at hln
              have HAD := hid (fun y => add119 W0.heap.size u7 (addL L0 (R.take j)) y wr HK.out.1.own (by omega) HK.out.2.size)
              generalize R[j] = y at *
              go_wp2_with (go_at_call 119; (with_reducible refine (HAD.out _).mono ?_); rintro e w6 hA6; obtain ⟨v6, rfl, hg6, hgr6⟩ := GrI.add HK.out.1 hA6; have HG6 := hid hg6; have HR6 := hid (GrI.grown HK.out.1 HK.out.2 (Nat.le_refl _) hgr6); clear hA6 hg6 hgr6)
              go_roundg (R.length - (j + 1))
              case measure => omega
              case rel => exact ⟨j + 1, by omega, rfl, by go_num, hid ⟨by rw [HSN.out]; exact HG6.out, HR6.out⟩⟩
            · obtain rfl : j = R.length := by omega
              have nj : ¬ (R.length : Int) < (R.length : Int) := by omega
              rw [List.take_length] at HK
              obtain ⟨A0, hA0⟩ : ∃ A, A = addL L0 R := ⟨_, rfl⟩
              have HA0L : Hid (A0.length ≤ 1202) := hid (by have := addL_len L0 R; rw [hA0]; omega)
              rw [← hA0] at HK HNW
              clear hA0
              obtain ⟨k0, k1, k2, k3, k4, k5, k6⟩ := box7 (HUX.out _ HK.out.2)
              obtain ⟨b3, o3, e3, hl3, c0, c1, c2, c3⟩ := HIC.out _ (HL2.out.hb.step HK.out.2)
              cases e3
              go_upto_region 19 with (first
                | (go_at_call 82; (with_reducible refine (HWR.out _).mono ?_); rintro e w5 ⟨rfl, hb5⟩; have HB5 := hid (HK.out.2.step hb5); have HG5 := hid (HK.out.1.own.later hb5); obtain ⟨j0, j1, j2, j3, j4, j5, j6⟩ := box7 (HUX.out _ HB5.out); clear hb5)
                | (go_at_call 120; (with_reducible refine (HBY.out _ (HL2.out.hb.step HB5.out)).mono ?_); rintro e w6 ⟨hb6, v6, rfl, ho6⟩; have HB6 := hid hb6; have HO6 := hid ho6; clear hb6 ho6))
              clear k0 k1 k2 k3 k4 k5 k6 j0 j1 j2 j3 j4 j5 j6 c0 c1 c2 c3 hl3
              obtain ⟨ba, bcc, rfl, hgi⟩ := GrI.of HG5.out HB6.out HO6.out (Nat.le_refl _)
              have HGI := hid hgi
              have HBW := hid (HB5.out.step HB6.out)
              clear hgi HK HB5 HG5 HB6 HO6 nj
              go_wp2
              go_loopg [7, 12] B.length (fun gh s7 s12 wr => ∃ j : Nat, j ≤ B.length ∧ gh = B.length - j ∧ s12 = .int .i64 j ∧ Hid (GrI W0.heap.size ba B wr s7 ((B.take j).foldl (lvJump s2 WI) A0) ∧ Below W0.heap.size W0 wr))
              case atStart => exact ⟨0, Nat.zero_le _, rfl, rfl, hid ⟨HGI.out, HBW.out⟩⟩
              case round =>
                clear HGI HBW
                obtain ⟨j, hj, rfl, rfl, HK⟩ := hrel
                by_cases hlj : j < B.length
                · obtain ⟨bb, bo, hba, hltb, h0⟩ := HK.out.1.rd j hlj
                  subst hba
                  have nj : (j : Int) < (B.length : Int) := by omega
                  have HT : Hid (B.take (j + 1) = B.take j ++ [B[j]]) := hid (take_last hlj)
                  have HSN := hid (foldl_snoc1 (lvJump s2 WI) A0 (B.take j) B[j])
                  rw [← HT.out] at HSN
                  have hln := lvFold_len s2 WI HRL.out (B.take j) A0
                  rw [List.length_take, Nat.min_eq_left hj] at hln
                  have ha0 := HA0L.out
                  have hpin := HBIN.out B[j] (List.getElem_mem hlj)
                  have HBJ : Hid (∀ wx, RdI wx (some ⟨bb, bo, none⟩) B → wx.cell? ⟨bb, bo + j, none⟩ = some (.int .i64 B[j])) := hid (fun wx hg => by obtain ⟨b9, o9, e9, _, h9⟩ := hg j hlj; cases e9; exact h9)
                  generalize B[j] = p at *
                  obtain ⟨pn, rfl⟩ : ∃ pn : Nat, p = pn := ⟨p.toNat, by omega⟩
                  have hpn : pn < s2.length := by have := HL2.out.lv.len; omega
                  have npl : (pn : Int) < (u.code.length : Int) := by omega
                  obtain ⟨pa, pc, hcP, hrP⟩ := HL2.out.nd.row hpn
                  have HCP := hid (fun wx (hb : Below W0.heap.size W0 wx) => And.intro (cell_later hb hcP) (hrP.below hb))
                  have HRPL := hid (HRL.out pn)
                  have HSJ : Hid (lvJump s2 WI ((B.take j).foldl (lvJump s2 WI) A0) (pn : Int) = addL ((B.take j).foldl (lvJump s2 WI) A0) ((s2.getD pn []).filter fun m => m != WI)) := hid (by unfold lvJump; rw [Int.toNat_natCast])
                  rw [HSJ.out] at HSN
                  clear HSJ hcP hrP hpin h0
                  generalize s2.getD pn [] = Rp at *
                  obtain ⟨A', hA'⟩ : ∃ A', A' = (B.take (j + 1)).foldl (lvJump s2 WI) A0 := ⟨_, rfl⟩
                  rw [← hA'] at HSN
                  have HA' := hid hA'
                  clear hA'
                  generalize (B.take j).foldl (lvJump s2 WI) A0 = A at *
                  have hrpl := HRPL.out
                  go_wp2
                  go_loopg [7, 13] Rp.length (fun gh s7 s13 wr => ∃ m : Nat, m ≤ Rp.length ∧ gh = Rp.length - m ∧ s13 = .int .i64 m ∧ Hid (GrI W0.heap.size (some ⟨bb, bo, none⟩) B wr s7 (addL A ((Rp.take m).filter fun x => x != WI)) ∧ Below W0.heap.size W0 wr))
                  case atStart => exact ⟨0, Nat.zero_le _, rfl, rfl, hid ⟨HK.out.1, HK.out.2⟩⟩
                  case round =>
                    clear HK
                    obtain ⟨m, hm1, rfl, rfl, HK⟩ := hrel
                    have h0 := HBJ.out _ HK.out.1.rd
                    have hcp := (HCP.out _ HK.out.2).1
                    by_cases hlm : m < Rp.length
                    · obtain ⟨qb, qo, hqa, hlq, hy⟩ := (HCP.out _ HK.out.2).2 m hlm
                      subst hqa
                      have nm : (m : Int) < (Rp.length : Int) := by omega
                      have HTm : Hid (Rp.take (m + 1) = Rp.take m ++ [Rp[m]]) := hid (take_last hlm)
                      have HFm := hid (filter_snoc1 (fun x => x != WI) (Rp.take m) Rp[m])
                      rw [← HTm.out] at HFm
                      have hlf := List.length_filter_le (fun x => x != WI) (Rp.take m)
                      rw [List.length_take, Nat.min_eq_left hm1] at hlf
                      have hla := addL_len A ((Rp.take m).filter fun x => x != WI)
                      have HAD := hid (fun y => add119 W0.heap.size u7 (addL A ((Rp.take m).filter fun x => x != WI)) y wr HK.out.1.own (by omega) HK.out.2.size)
                      have HS1 := hid (addL_snoc1 A ((Rp.take m).filter fun x => x != WI) Rp[m])
                      generalize Rp[m] = y at *
                      cases hyw : (y == WI) with
                      | true =>
                        have HF2 : Hid ((Rp.take (m + 1)).filter (fun x => x != WI) = (Rp.take m).filter (fun x => x != WI)) := hid (by rw [HFm.out, if_neg (by simp [bne, hyw])])
                        clear HS1 HFm
                        go_wp2
                        go_roundg (Rp.length - (m + 1))
                        case measure => omega
                        case rel => exact ⟨m + 1, by omega, rfl, by go_num, hid ⟨by rw [HF2.out]; exact HK.out.1, HK.out.2⟩⟩
                      | false =>
                        have HF2 : Hid ((Rp.take (m + 1)).filter (fun x => x != WI) = (Rp.take m).filter (fun x => x != WI) ++ [y]) := hid (by rw [HFm.out, if_pos (by simp [bne, hyw])])
                        clear HFm
                        go_wp2_with (go_at_call 119; (with_reducible refine (HAD.out _).mono ?_); rintro e w6 hA6; obtain ⟨v6, rfl, hg6, hgr6⟩ := GrI.add HK.out.1 hA6; have HG6 := hid hg6; have HR6 := hid (GrI.grown HK.out.1 HK.out.2 (Nat.le_refl _) hgr6); clear hA6 hg6 hgr6)
                        go_roundg (Rp.length - (m + 1))
                        case measure => omega
                        case rel => exact ⟨m + 1, by omega, rfl, by go_num, hid ⟨by rw [HF2.out, HS1.out]; exact HG6.out, HR6.out⟩⟩
                    · obtain rfl : m = Rp.length := by omega
                      have nm : ¬ (Rp.length : Int) < (Rp.length : Int) := by omega
                      rw [List.take_length] at HK
                      go_wp2
                      go_roundg (B.length - (j + 1))
                      case measure => omega
                      case rel => exact ⟨j + 1, by omega, rfl, by go_num, hid ⟨by rw [← HA'.out, HSN.out]; exact HK.out.1, HK.out.2⟩⟩
                · obtain rfl : j = B.length := by omega
                  have nj : ¬ (B.length : Int) < (B.length : Int) := by omega
                  rw [List.take_length] at HK
                  have HA1L := hid (lvFold_len s2 WI HRL.out B A0)
                  generalize B.foldl (lvJump s2 WI) A0 = A1 at *
                  have ha1 : A1.length ≤ 10000 := by have := HA1L.out; have := HA0L.out; omega
                  obtain ⟨k0, k1, k2, k3, k4, k5, k6⟩ := box7 (HUX.out _ HK.out.2)
                  go_upto_region 28 with (go_at_call 121; (with_reducible refine (HGD.out _ (HL2.out.hb.step HK.out.2)).mono ?_); rintro e w5 ⟨rfl, hb5⟩; have HB5 := hid (HK.out.2.step hb5); have HO5 := hid (HK.out.1.own.later hb5); clear hb5)
                  clear k0 k1 k2 k3 k4 k5 k6 HK HRD HWR HBY HGD HBIN nj
                  obtain ⟨k0, k1, k2, k3, k4, k5, k6⟩ := box7 (HUX.out _ HB5.out)
                  obtain ⟨b3, o3, e3, hl3, c0, c1, c2, c3⟩ := HIC.out _ (HL2.out.hb.step HB5.out)
                  cases e3
                  have HA1 := hid ha1
                  clear ha1 hl3
                  go_cut [120] from 111 to 119 (fun s120 wy => s120 = .bool (br && decide (0 ≤ q)) ∧ Hid (Below w5.heap.size w5 wy))
                  case first =>
                    cases br with
                    | false =>
                      go_wp2_with (go_at_call 122; (with_reducible refine (HRS.out _).mono ?_); rintro e w6 ⟨rfl, hb6⟩; have HB6 := hid hb6; clear hb6)
                      go_meet
                      exact ⟨rfl, HB6⟩
                    | true =>
                      rcases HQ.out with rfl | ⟨m, rfl, hm2⟩
                      · go_wp2_with (go_at_call 122; (with_reducible refine (HRS.out _).mono ?_); rintro e w6 ⟨rfl, hb6⟩; have HB6 := hid hb6; clear hb6)
                        go_meet
                        exact ⟨rfl, HB6⟩
                      · have nm0 : (0 : Int) ≤ (m : Int) := by omega
                        have nmd : decide ((0 : Int) ≤ (m : Int)) = true := decide_eq_true nm0
                        go_wp2_with (go_at_call 122; (with_reducible refine (HRS.out _).mono ?_); rintro e w6 ⟨rfl, hb6⟩; have HB6 := hid hb6; clear hb6)
                        go_meet
                        exact ⟨by rw [nmd]; rfl, HB6⟩
                  case rest =>
                  obtain ⟨rfl, HB6⟩ := hcut
                  clear k0 k1 k2 k3 k4 k5 k6 c0 c1 c2 c3
                  obtain ⟨w6, rfl⟩ : ∃ w6, w6 = wc := ⟨_, rfl⟩
                  go_upto_if 120 with fail
                  go_cut [7, 15, 16] from 120 to 144 (fun s7 s15 s16 wy => Hid (OwnI wy W0.heap.size s7 NW) ∧ Hid (Below W0.heap.size W0 wy))
                  case first =>
                    cases hbq : (br && decide (0 ≤ q)) with
                    | false =>
                      have HNW2 : Hid (NW = A1) := hid (by rw [HNW.out, HGR.out.trans (if_neg (by rw [hbq]; simp))]; rfl)
                      go_wp2
                      go_meet
                      exact ⟨by rw [HNW2.out]; exact hid (OwnI.later HO5.out HB6.out), hid (HB5.out.step HB6.out)⟩
                    | true =>
                      have hq2 : ∃ m : Nat, q = m ∧ m < u.guards.length := by
                        rcases HQ.out with h | h
                        · rw [h] at hbq; simp at hbq
                        · exact h
                      replace HGR := hid (HGR.out.trans (if_pos hbq))
                      clear hbq HQ
                      obtain ⟨m, rfl, hm2⟩ := hq2
                      have HPIN := hid (HPG.out u.guards[m] (List.getElem_mem hm2))
                      have HG2 := HGR
                      rw [Int.toNat_natCast, getD_in hm2] at HG2
                      have HGC := hid (fun wx (hb : Below w.heap.size w wx) => (HM.out.rg.below hb) m hm2)
                      generalize u.guards[m] = g at *
                      obtain ⟨gf, gt, gat⟩ := g
                      dsimp only at HG2 HPIN HGC
                      obtain ⟨pn, rfl⟩ : ∃ pn : Nat, gat = pn := ⟨gat.toNat, by have := HPIN.out; omega⟩
                      rw [Int.toNat_natCast] at HG2
                      have hpin := HPIN.out
                      have hpn : pn < s2.length := by have := HL2.out.lv.len; omega
                      have npl : (pn : Int) < (u.code.length : Int) := by omega
                      have nm : (m : Int) < (u.guards.length : Int) := by omega
                      have nm0 : (0 : Int) ≤ (m : Int) := by omega
                      obtain ⟨pa, pc, hcP, hrP⟩ := HL2.out.nd.row hpn
                      have HCP := hid (fun wx (hb : Below W0.heap.size W0 wx) => And.intro (cell_later hb hcP) (hrP.below hb))
                      have HRPL := hid (HRL.out pn)
                      rw [HG2.out] at HNW
                      clear HG2 HGR hcP hrP hpin HPIN
                      generalize s2.getD pn [] = Rp at *
                      obtain ⟨gb, go, hga, hltg, e0, e1, e2⟩ := HGC.out _ (HL2.out.hb.step HB5.out)
                      subst hga
                      clear e0 e1 e2 hltg
                      obtain ⟨k0, k1, k2, k3, k4, k5, k6⟩ := box7 (HUX.out _ (HB5.out.step HB6.out))
                      obtain ⟨g3, o4, e4, hl4, d0, d1, d2⟩ := HGC.out _ (HL2.out.hb.step (HB5.out.step HB6.out))
                      cases e4
                      have hrpl := HRPL.out
                      have ha1 := HA1.out
                      go_wp2
                      go_loopg [7, 16] Rp.length (fun gh s7 s16 wr => ∃ j : Nat, j ≤ Rp.length ∧ gh = Rp.length - j ∧ s16 = .int .i64 j ∧ Hid (OwnI wr W0.heap.size s7 (addL A1 (Rp.take j)) ∧ Below W0.heap.size W0 wr))
                      case atStart => exact ⟨0, Nat.zero_le _, rfl, rfl, hid ⟨OwnI.later HO5.out HB6.out, HB5.out.step HB6.out⟩⟩
                      case round =>
                        clear HO5 HB5 HB6
                        obtain ⟨j, hj, rfl, rfl, HK⟩ := hrel
                        have hcp := (HCP.out _ HK.out.2).1
                        by_cases hlj : j < Rp.length
                        · obtain ⟨qb, qo, hqa, hlq, hy⟩ := (HCP.out _ HK.out.2).2 j hlj
                          subst hqa
                          have nj : (j : Int) < (Rp.length : Int) := by omega
                          have HT : Hid (Rp.take (j + 1) = Rp.take j ++ [Rp[j]]) := hid (take_last hlj)
                          have HSN := hid (addL_snoc1 A1 (Rp.take j) Rp[j])
                          rw [← HT.out] at HSN
                          have hln := addL_len A1 (Rp.take j)
                          rw [List.length_take, Nat.min_eq_left hj] at hln
                          have HAD := hid (fun y => add119 W0.heap.size u7 (addL A1 (Rp.take j)) y wr HK.out.1 (by omega) HK.out.2.size)
                          generalize Rp[j] = y at *
                          go_wp2_with (go_at_call 119; (with_reducible refine (HAD.out _).mono ?_); rintro e w6 ⟨v6, rfl, ho6, hg6, -⟩; have HO6 := hid ho6; have HR6 := hid (Below.grown HK.out.2 hg6 HK.out.2.size (own_ge HK.out.1)); clear ho6 hg6)
                          go_roundg (Rp.length - (j + 1))
                          case measure => omega
                          case rel => exact ⟨j + 1, by omega, rfl, by go_num, hid ⟨by rw [HSN.out]; exact HO6.out, HR6.out⟩⟩
                        · obtain rfl : j = Rp.length := by omega
                          have nj : ¬ (Rp.length : Int) < (Rp.length : Int) := by omega
                          rw [List.take_length] at HK
                          go_wp2
                          go_meet
                          exact ⟨by rw [HNW.out]; exact hid HK.out.1, hid HK.out.2⟩
                  case rest =>
                    obtain ⟨HO, HBC⟩ := hcut
                    clear HO5 HB5 HRS HQ
                    have HV7 := hid (ownI_rdV HO.out)
                    obtain ⟨a7, c7, rfl, -⟩ := HO.out.rd
                    have hcl := HCN.out _ HBC.out
                    have HLc := hid (HL2.out.below HBC.out)
                    by_cases hne : NW.length = L0.length
                    · have nb : ((NW.length : Int) == (L0.length : Int)) = true := by simp [hne]
                      have HTS := hid (HSTAY.out hne)
                      go_wp2
                      go_roundg (0 + k)
                      case measure => omega
                      case rel => exact ⟨k, (k : Int) - 1, s2, c2, rfl, by omega, by omega, by go_num, rfl, HLc, HTS⟩
                    · have nb : ((NW.length : Int) == (L0.length : Int)) = false := by simp; omega
                      have HTS := hid (HSTEP.out hne)
                      obtain ⟨cur, hcur, -, -⟩ := HLc.out.nd
                      have fA := boxF k hcur
                      have HLS : Hid (LrO u (some ⟨bc, oc, none⟩) cc ga gc w bA (s2.set k NW) (wc.setCell ⟨bA, k, none⟩ (.slice a7 NW.length c7))) := hid ⟨HLc.out.hb.setCell (p := ⟨bA, k, none⟩) (by show w.heap.size ≤ bA; have := HL2.out.ge; omega) _, (heap_setCell_other _ _ _ _ (by show w.heap.size ≠ bA; have := HL2.out.ge; omega)).trans HLc.out.hu, HLc.out.nd.set hks HV7.out, HSTL.out, HL2.out.ge⟩
                      clear hcur
                      go_wp2
                      go_roundg (0 + k)
                      case measure => omega
                      case rel => exact ⟨k, (k : Int) - 1, _, true, rfl, by omega, by omega, by go_num, rfl, HLS, HTS⟩

/-- Whether no run of arguments can end here. -/
def gsC (code : List InsN) (i : Nat) : Bool := !(callB (code.getD i ins0) && decide (0 < i) && argB (code.getD (i - 1) ins0))
def gsRunTo (code : List InsN) (f : Nat) : Nat → Bool
  | 0 => true
  | c + 1 => gsRunTo code f c && (argB (code.getD (f + c) ins0) && (code.getD (f + c) ins0).a == (c : Int))
theorem gsRunTo_eq (code : List InsN) (i f : Nat) : gsRun code i f = gsRunTo code f (i - f) := by
  unfold gsRun
  generalize i - f = n
  induction n with
  | zero => rfl
  | succ n ih =>
    rw [List.range_succ, List.all_append, ih]
    simp [gsRunTo]
theorem gs_skip {code : List InsN} {out : List Int} {i : Nat} (h : gsB code i = false) : gsStep code out i = out := if_neg (by rw [h]; simp)
theorem gs_no1 {code : List InsN} {i : Nat} (h : gsC code i = true) : gsB code i = false := by
  unfold gsC at h
  unfold gsB
  simp only [Bool.not_eq_true'] at h
  rw [h]
  simp
theorem gs_no2 {code : List InsN} {i : Nat} (h : ¬ (0 ≤ gsF code i ∧ gsF code i < i)) : gsB code i = false := by
  unfold gsB
  by_cases h1 : 0 ≤ gsF code i
  · have h2 : ¬ gsF code i < i := fun h2 => h ⟨h1, h2⟩
    simp [h2]
  · simp [h1]
theorem gs_yes {code : List InsN} {i f : Nat} (h : gsC code i = false) (hf : gsF code i = f) (hfi : f < i) : gsB code i = gsRunTo code f (i - f) := by
  unfold gsC at h
  simp only [Bool.not_eq_false'] at h
  unfold gsB
  rw [h, hf, Int.toNat_natCast, gsRunTo_eq]
  have h1 : decide ((0 : Int) ≤ (f : Int)) = true := by simp
  have h2 : decide ((f : Int) < (i : Int)) = true := by simp; omega
  rw [h1, h2]
  simp
theorem gsStep_yes {code : List InsN} {out : List Int} {i f : Nat} (h : gsB code i = true) (hf : gsF code i = f) : gsStep code out i = setMany out f f (i + 1 - f) := by
  unfold gsStep
  rw [if_pos h, hf, Int.toNat_natCast]
/-- What groups keeps. -/
structure GsI (u : UntN) (ca : Option Addr) (cc : Nat) (ga : Option Addr) (gc : Nat) (w : World) (l : List Int) (wr : World) : Prop where
  bi : BI wr (w.heap.size + 1) l
  hb : Below w.heap.size w wr
  hu : wr.heap[w.heap.size]? = some (oU u ca cc ga gc)
theorem GsI.below {u : UntN} {ca : Option Addr} {cc : Nat} {ga : Option Addr} {gc : Nat} {w : World} {l : List Int} {wr w' : World} (h : GsI u ca cc ga gc w l wr) (hb : Below wr.heap.size wr w') : GsI u ca cc ga gc w l w' :=
  ⟨h.bi.below hb, h.hb.step hb, keepBox hb h.hu⟩
theorem GsI.set {u : UntN} {ca : Option Addr} {cc : Nat} {ga : Option Addr} {gc : Nat} {w : World} {l : List Int} {wr : World} (h : GsI u ca cc ga gc w l wr) {k : Nat} (hk : k < l.length) (v : Int) : GsI u ca cc ga gc w (l.set k v) (wr.setCell ⟨w.heap.size + 1, k, none⟩ (.int .i64 v)) :=
  ⟨h.bi.set hk v, h.hb.setCell (p := ⟨w.heap.size + 1, k, none⟩) (by show w.heap.size ≤ w.heap.size + 1; omega) _, (heap_setCell_other _ _ _ _ (by show w.heap.size ≠ w.heap.size + 1; omega)).trans h.hu⟩
set_option maxRecDepth 100000 in
set_option maxHeartbeats 8000000 in
theorem groups54 (u : UntN) (ca : Option Addr) (cc : Nat) (ga : Option Addr) (gc : Nat) (w : World) (hm : UnM w u ca cc ga gc) (hlen : u.code.length ≤ 1000000) (hab : ∀ x ∈ u.code, -9223372036854775808 ≤ x.a ∧ x.a ≤ 9223372036854775807) :
    Calls Tryz.prog 54 #[vU u ca cc ga gc] w (BlkRet (firstsL u.code) w) := by
  have HM := hid hm; clear hm
  have HAB := hid hab; clear hab
  have HFIN := hid (gs_firsts u.code)
  have hmk := fun w => run_make_row' (P := Tryz.prog) 28 3 (.int .i64 0) 8 Tryz.underlying28 info3 rfl .i64 .i64 u.code.length (by omega) (by omega) w
  have HMD := hid (fun w => bi_made w u.code.length)
  obtain ⟨M, hM⟩ : ∃ M, M = madeCells #[.int .i64 0] u.code.length := ⟨_, rfl⟩
  rw [← hM] at hmk HMD
  clear hM
  have HX1 := hid (keepBox (bnew _ (.cells M 3)) (heapn w (oU u ca cc ga gc) _ rfl))
  have HB := hid ((bnew w (oU u ca cc ga gc)).step (bnew _ (.cells M 3)))
  have HG := hid (HMD.out (w.alloc (oU u ca cc ga gc)))
  rw [World.size_alloc] at HG
  clear HMD
  go_enter Tryz.func54, Tryz.ntmps54
  go_upto_region 2 with fail
  obtain ⟨w2, hw2⟩ : ∃ w2, w2 = (w.alloc (oU u ca cc ga gc)).alloc (.cells M 3) := ⟨_, rfl⟩
  rw [← hw2] at HX1 HB HG
  rw [← hw2]
  clear hw2 hmk
  have HI0 : Hid (GsI u ca cc ga gc w (gs0 u.code 0) w2) := hid ⟨HG.out, HB.out, HX1.out⟩
  clear HX1 HB HG
  go_wp2
  go_loopg [4] u.code.length (fun gh s4 wr => ∃ k : Nat, k ≤ u.code.length ∧ gh = u.code.length - k ∧ s4 = .int .i64 k ∧ Hid (GsI u ca cc ga gc w (gs0 u.code k) wr))
  case atStart => exact ⟨0, Nat.zero_le _, rfl, rfl, HI0⟩
  case round =>
    obtain ⟨k, hk, rfl, rfl, HK⟩ := hrel
    by_cases hlk : k < u.code.length
    · have nk : (k : Int) < (u.code.length : Int) := by omega
      have lfs : k < (gs0 u.code k).length := by rw [gs0_length]; exact hlk
      have HS : Hid (gs0 u.code (k + 1) = (gs0 u.code k).set k (if argB u.code[k] = true then -1 else k)) := hid (by show fsOne u.code (gs0 u.code k) k = _; unfold fsOne; rw [getD_in hlk])
      have HAR : Hid (argB u.code[k] = (u.code[k].op == 19)) := hid rfl
      obtain ⟨b2, off, ha, hlt2, c0, c1, c2, c3⟩ := (HM.out.rc.below HK.out.hb) k hlk
      obtain ⟨b3, off3, ha3, hlt3, d0, d1, d2, d3⟩ := (HM.out.rc.below (HK.out.set lfs k).hb) k hlk
      subst ha
      cases ha3
      have hfr := HK.out.bi.frozen k
      have hfr2 := (HK.out.set lfs k).bi.frozen k
      obtain ⟨k0, k1, k2, k3, k4, k5, k6⟩ := box7 HK.out.hu
      obtain ⟨j0, j1, j2, j3, j4, j5, j6⟩ := box7 (HK.out.set lfs k).hu
      obtain ⟨old, hold⟩ : ∃ v, wr.cell? ⟨w.heap.size + 1, k, none⟩ = some v := ⟨_, HK.out.bi.at lfs⟩
      have lw1 : w.heap.size + 1 < wr.heap.size := HK.out.bi.lt
      generalize u.code[k] = x at *
      cases ha : (x.op == 19) with
      | true =>
        rw [HAR.out, ha, if_pos rfl] at HS
        go_wp2
        go_roundg (u.code.length - (k + 1))
        case measure => omega
        case rel =>
          refine ⟨k + 1, by omega, rfl, by go_num, hid ?_⟩
          have h2 := (HK.out.set lfs k).set (k := k) (by rw [List.length_set]; exact lfs) (-1)
          rw [List.set_set] at h2
          rw [HS.out]
          exact h2
      | false =>
        rw [HAR.out, ha, if_neg (by simp)] at HS
        go_wp2
        go_roundg (u.code.length - (k + 1))
        case measure => omega
        case rel => exact ⟨k + 1, by omega, rfl, by go_num, hid (by rw [HS.out]; exact HK.out.set lfs k)⟩
    · obtain rfl : k = u.code.length := by omega
      have nk : ¬ (u.code.length : Int) < (u.code.length : Int) := by omega
      have HI1 : Hid (GsI u ca cc ga gc w (gsTo u.code 0) wr) := hid HK.out
      clear HK HI0
      obtain ⟨W0, rfl⟩ : ∃ W0, W0 = wr := ⟨_, rfl⟩
      go_wp2
      go_loopg [5] u.code.length (fun gh s5 wr => ∃ k : Nat, k ≤ u.code.length ∧ gh = u.code.length - k ∧ s5 = .int .i64 k ∧ Hid (GsI u ca cc ga gc w (gsTo u.code k) wr))
      case atStart => exact ⟨0, Nat.zero_le _, rfl, rfl, HI1⟩
      case round =>
        clear nk
        obtain ⟨k, hk, rfl, rfl, HK⟩ := hrel
        by_cases hlk : k < u.code.length
        · have nk : (k : Int) < (u.code.length : Int) := by omega
          have HS : Hid (gsTo u.code (k + 1) = gsStep u.code (gsTo u.code k) k) := hid rfl
          have HLT : Hid ((gsTo u.code k).length = u.code.length) := hid (gsTo_length u.code k)
          have HRC := hid (fun wx (hb : Below w.heap.size w wx) q (hq : q < u.code.length) => (HM.out.rc.below hb) q hq)
          obtain ⟨b2, off, ha, hlt2, c0, c1, c2, c3⟩ := HRC.out _ HK.out.hb k hlk
          subst ha
          generalize gsTo u.code k = OUT at *
          have HXC : Hid (callB u.code[k] = !((u.code[k].op != 20) && (u.code[k].op != 22))) := hid (by unfold callB bne; cases (u.code[k].op == 20) <;> cases (u.code[k].op == 22) <;> rfl)
          obtain ⟨k0, k1, k2, k3, k4, k5, k6⟩ := box7 HK.out.hu
          rcases Nat.eq_zero_or_pos k with h0 | h0
          · have n0 : ((k : Int) == 0) = true := by simp; omega
            have HN := hid (HS.out.trans (gs_skip (out := OUT) (gs_no1 (show gsC u.code k = true by subst h0; simp [gsC]))))
            have HK0 := hid h0
            clear h0
            generalize u.code[k] = x at *
            have HKB := hid (fun wx (hb : Below wr.heap.size wr wx) => HK.out.below hb)
            rcases (show (x.op != 20) = false ∨ ((x.op != 20) = true ∧ (x.op != 22) = false) ∨ ((x.op != 20) = true ∧ (x.op != 22) = true) by cases (x.op != 20) <;> cases (x.op != 22) <;> simp) with e20 | ⟨e20, e22⟩ | ⟨e20, e22⟩
            all_goals
              go_wp2
              go_roundg (u.code.length - (k + 1))
              case measure => have := HK0.out; omega
              case rel => exact ⟨k + 1, by omega, rfl, by first | go_num | (rw [HK0.out]; rfl), hid (by rw [HN.out]; exact HKB.out _ (bnew _ _))⟩
          have n0 : ((k : Int) == 0) = false := by simp; omega
          go_upto_region 12 with fail
          obtain ⟨w3, hw3⟩ : ∃ W, W = wr.alloc (.cells #[.int .i64 u.code[k].op, .int .i64 u.code[k].a, .int .i64 u.code[k].b, .int .i64 u.code[k].c] 85) := ⟨_, rfl⟩
          obtain ⟨b6, hb6⟩ : ∃ b, b = wr.heap.size := ⟨_, rfl⟩
          have HX6 : Hid (w3.heap[b6]? = some (.cells #[.int .i64 u.code[k].op, .int .i64 u.code[k].a, .int .i64 u.code[k].b, .int .i64 u.code[k].c] 85)) := hid (by rw [hw3]; exact heapn _ _ _ hb6)
          have HK3 : Hid (GsI u (some ⟨b2, off, none⟩) cc ga gc w OUT w3) := hid (by rw [hw3]; exact HK.out.below (bnew _ _))
          rw [← hw3, ← hb6]
          clear hw3 hb6 c0 c1 c2 c3 hlt2 HK k0 k1 k2 k3 k4 k5 k6
          obtain ⟨q0, q1, q2, q3⟩ := box4 HX6.out
          obtain ⟨k0, k1, k2, k3, k4, k5, k6⟩ := box7 HK3.out.hu
          have HC : Hid (gsC u.code k = !(callB u.code[k] && decide (0 < k) && argB (u.code.getD (k - 1) ins0))) := hid (by unfold gsC; rw [getD_in hlk])
          clear HX6
          generalize u.code[k] = x at *
          obtain ⟨q, hq⟩ : ∃ q, k = q + 1 := ⟨k - 1, by omega⟩
          have eq1 : (k : Int) - 1 = (q : Int) := by omega
          have hmx : max (0 : Int) (q : Int) = (q : Int) := by omega
          have hql : q < u.code.length := by omega
          have nql : (q : Int) < (u.code.length : Int) := by omega
          obtain ⟨b7, o7, e7, h7, d0, d1, d2, d3⟩ := HRC.out w3 HK3.out.hb q hql
          cases e7
          have HC2 : Hid (gsC u.code k = !(callB x && argB u.code[q])) := hid (by rw [HC.out, show k - 1 = q by omega, getD_in hql, show decide (0 < k) = true by simp; omega, Bool.and_true])
          have HFF : Hid (gsF u.code k = (q : Int) - u.code[q].a) := hid (by unfold gsF; rw [show k - 1 = q by omega, getD_in hql, eq1])
          have hya := HAB.out u.code[q] (List.getElem_mem hql)
          have HQ := hid hq
          clear hq h0 HC
          generalize u.code[q] = y at *
          go_cut [68] from 41 to 67 (fun s68 wy => s68 = .bool (gsC u.code k) ∧ Hid (w3 = wy))
          case first =>
            rcases (show (x.op != 20) = false ∨ ((x.op != 20) = true ∧ (x.op != 22) = false) ∨ ((x.op != 20) = true ∧ (x.op != 22) = true) by cases (x.op != 20) <;> cases (x.op != 22) <;> simp) with e20 | ⟨e20, e22⟩ | ⟨e20, e22⟩
            · have HV : Hid (gsC u.code k = (y.op != 19)) := hid (by rw [HC2.out, HXC.out, e20]; rfl)
              clear HXC
              go_wp2
              go_meet
              exact ⟨by rw [HV.out], hid rfl⟩
            · have HV : Hid (gsC u.code k = (y.op != 19)) := hid (by rw [HC2.out, HXC.out, e20, e22]; rfl)
              clear HXC
              go_wp2
              go_meet
              exact ⟨by rw [HV.out], hid rfl⟩
            · have HV : Hid (gsC u.code k = true) := hid (by rw [HC2.out, HXC.out, e20, e22]; rfl)
              clear HXC
              go_wp2
              go_meet
              exact ⟨by rw [HV.out], hid rfl⟩
          case rest =>
            obtain ⟨rfl, HW⟩ := hcut
            obtain rfl := HW.out
            clear HW q0 q1 q2 q3 HC2 HXC
            cases hC : gsC u.code k with
            | true =>
              have HN := hid (HS.out.trans (gs_skip (gs_no1 hC)))
              clear hC
              go_wp2
              go_roundg (u.code.length - (k + 1))
              case measure => omega
              case rel => exact ⟨k + 1, by omega, rfl, by go_num, hid (by rw [HN.out]; exact HK3.out)⟩
            | false =>
              by_cases hin : 0 ≤ gsF u.code k ∧ gsF u.code k < k
              · obtain ⟨f, hf⟩ : ∃ f : Nat, gsF u.code k = f := ⟨(gsF u.code k).toNat, by omega⟩
                have hfe : (q : Int) - y.a = (f : Int) := by rw [← hf]; exact HFF.out.symm
                have hfk : f < k := by omega
                have nf1 : ¬ (k : Int) ≤ (f : Int) := by omega
                have HGY := hid (gs_yes hC hf hfk)
                have HGS := hid (fun h => HS.out.trans (gsStep_yes (out := OUT) h hf))
                have HGN := hid (fun h => HS.out.trans (gs_skip (out := OUT) h))
                clear hin hf hC HFF
                go_wp2
                go_loopg [8, 9] (k - f) (fun gh s8 s9 wr => ∃ j : Nat, (f ≤ j ∧ j ≤ k) ∧ gh = k - j ∧ s9 = .int .i64 j ∧ s8 = .bool (gsRunTo u.code f (j - f)) ∧ Hid (w3 = wr))
                case atStart => exact ⟨f, ⟨Nat.le_refl _, by omega⟩, rfl, rfl, by rw [Nat.sub_self]; rfl, hid rfl⟩
                case round =>
                  obtain ⟨j, ⟨hj1, hj2⟩, rfl, rfl, rfl, HW⟩ := hrel
                  obtain rfl := HW.out
                  by_cases hck : j < k
                  · have ncl : (j : Int) < (k : Int) := by omega
                    have ncn : (j : Int) < (u.code.length : Int) := by omega
                    obtain ⟨c, hc⟩ : ∃ c : Nat, j = f + c := ⟨j - f, by omega⟩
                    have ncf : (j : Int) - (f : Int) = (c : Int) := by omega
                    obtain ⟨b8, o8, e8, h8, g0, g1, g2, g3⟩ := HRC.out _ HK3.out.hb j (by omega)
                    cases e8
                    have HRN : Hid (gsRunTo u.code f (j + 1 - f) = (gsRunTo u.code f (j - f) && ((u.code[j]'(by omega)).op == 19 && (u.code[j]'(by omega)).a == (c : Int)))) := hid (by
                      rw [show j + 1 - f = c + 1 by omega, show j - f = c by omega]
                      show (gsRunTo u.code f c && (argB (u.code.getD (f + c) ins0) && (u.code.getD (f + c) ins0).a == (c : Int))) = _
                      rw [← hc, getD_in (by omega)]
                      rfl)
                    have HJ := hid hc
                    clear hc
                    generalize (u.code[j]'(by omega)) = z at *
                    generalize gsRunTo u.code f (j - f) = rb at *
                    go_cut [8, 9] from 88 to 114 (fun s8 s9 wy => s8 = .bool (rb && (z.op == 19 && z.a == (c : Int))) ∧ s9 = .int .i64 ((j + 1 : Nat) : Int) ∧ Hid (w3 = wy))
                    case first =>
                      cases rb with
                      | false =>
                        go_wp2
                        go_meet
                        exact ⟨rfl, by go_num, hid rfl⟩
                      | true =>
                        cases ez : (z.op == 19) with
                        | false =>
                          have HV : Hid ((true && (z.op == 19 && z.a == (c : Int))) = false) := hid (by rw [ez]; rfl)
                          go_wp2
                          go_meet
                          exact ⟨by rw [HV.out], by go_num, hid rfl⟩
                        | true =>
                          have HV : Hid ((true && (z.op == 19 && z.a == (c : Int))) = (z.a == (c : Int))) := hid (by rw [ez]; rfl)
                          go_wp2
                          go_meet
                          exact ⟨by rw [HV.out], by go_num, hid rfl⟩
                    case rest =>
                      obtain ⟨rfl, rfl, HW⟩ := hcut
                      obtain rfl := HW.out
                      rw [← HRN.out]
                      go_wp2
                      go_roundg (k - (j + 1))
                      case measure => omega
                      case rel => exact ⟨j + 1, ⟨by omega, by omega⟩, rfl, by go_num, rfl, hid rfl⟩
                  · obtain rfl : j = k := by omega
                    have ncl : ¬ (j : Int) < (j : Int) := by omega
                    cases hrb : gsRunTo u.code f (j - f) with
                    | false =>
                      have HN := hid (HGN.out (HGY.out.trans hrb))
                      clear hrb
                      go_wp2
                      go_roundg (u.code.length - (j + 1))
                      case measure => omega
                      case rel => exact ⟨j + 1, by omega, rfl, by go_num, hid (by rw [HN.out]; exact HK3.out)⟩
                    | true =>
                      have HN := hid (HGS.out (HGY.out.trans hrb))
                      clear hrb
                      go_wp2
                      go_loopg [10] (j + 1 - f) (fun gh s10 wr => ∃ p : Nat, (f ≤ p ∧ p ≤ j + 1) ∧ gh = j + 1 - p ∧ s10 = .int .i64 p ∧ Hid (GsI u (some ⟨b2, off, none⟩) cc ga gc w (setMany OUT f f (p - f)) wr))
                      case atStart => exact ⟨f, ⟨Nat.le_refl _, by omega⟩, rfl, rfl, hid (by rw [Nat.sub_self]; exact HK3.out)⟩
                      case round =>
                        obtain ⟨p, ⟨hp1, hp2⟩, rfl, rfl, HP⟩ := hrel
                        by_cases hpk : p ≤ j
                        · have np : (p : Int) ≤ (j : Int) := by omega
                          have npn : (p : Int) < (u.code.length : Int) := by omega
                          have lp : p < (setMany OUT f f (p - f)).length := by rw [setMany_length, HLT.out]; omega
                          obtain ⟨old, hold⟩ : ∃ v, wr.cell? ⟨w.heap.size + 1, p, none⟩ = some v := ⟨_, HP.out.bi.at lp⟩
                          have hfr := HP.out.bi.frozen p
                          go_wp2
                          go_roundg (j + 1 - (p + 1))
                          case measure => omega
                          case rel =>
                            refine ⟨p + 1, ⟨by omega, by omega⟩, rfl, by go_num, hid ?_⟩
                            have h2 := HP.out.set lp f
                            rw [show p + 1 - f = (p - f) + 1 by omega]
                            show GsI _ _ _ _ _ _ ((setMany OUT f f (p - f)).set (f + (p - f)) f) _
                            rw [show f + (p - f) = p by omega]
                            exact h2
                        · have np : ¬ (p : Int) ≤ (j : Int) := by omega
                          have HPN := hid (show p - f = j + 1 - f by omega)
                          go_wp2
                          go_roundg (u.code.length - (j + 1))
                          case measure => omega
                          case rel => exact ⟨j + 1, by omega, rfl, by go_num, hid (by rw [HN.out, ← HPN.out]; exact HP.out)⟩
              · have HN := hid (HS.out.trans (gs_skip (out := OUT) (gs_no2 hin)))
                have hff := HFF.out
                by_cases hw1 : (q : Int) - y.a ≤ 9223372036854775807
                · by_cases hw2 : (q : Int) - y.a < 0
                  · clear hin
                    go_wp2
                    go_roundg (u.code.length - (k + 1))
                    case measure => omega
                    case rel => exact ⟨k + 1, by omega, rfl, by go_num, hid (by rw [HN.out]; exact HK3.out)⟩
                  · have hw3 : (k : Int) ≤ (q : Int) - y.a := by omega
                    clear hin
                    go_wp2
                    go_roundg (u.code.length - (k + 1))
                    case measure => omega
                    case rel => exact ⟨k + 1, by omega, rfl, by go_num, hid (by rw [HN.out]; exact HK3.out)⟩
                · have hw3 : RowKit.wrap64 ((q : Int) - y.a) = (q : Int) - y.a - 18446744073709551616 := by unfold RowKit.wrap64; omega
                  have hw4 : (q : Int) - y.a - 18446744073709551616 < 0 := by omega
                  clear hin
                  go_wp2
                  go_roundg (u.code.length - (k + 1))
                  case measure => omega
                  case rel => exact ⟨k + 1, by omega, rfl, by go_num, hid (by rw [HN.out]; exact HK3.out)⟩
        · obtain rfl : k = u.code.length := by omega
          have nk : ¬ (u.code.length : Int) < (u.code.length : Int) := by omega
          rw [HFIN.out] at HK
          have HFL : Hid ((firstsL u.code).length = u.code.length) := hid (fsTo_length _ _)
          go_wp2
          go_ret
          exact ⟨HK.out.hb, _, by rw [HFL.out]; rfl, HK.out.bi, by omega⟩
end Go.Proofs.YtgalekifgnecjaaGreat
