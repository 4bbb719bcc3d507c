/- firsts of package regs. -/
import Derived.Test.YtgalekifgnecjaaGreatC7
namespace Go.Proofs.YtgalekifgnecjaaGreat
open Go.RowKit Go.Shelf

theorem takeW_iff {α : Type} {p : α → Bool} : ∀ (l : List α) (r : Nat) (_ : r ≤ (l.takeWhile p).length) (h : r < l.length), (p l[r] = true ↔ r < (l.takeWhile p).length)
  | [], _, _, h => absurd h (Nat.not_lt_zero _)
  | x :: l, 0, _, _ => by
    cases hx : p x <;> simp [hx]
  | x :: l, r + 1, h1, h => by
    cases hx : p x with
    | false => simp [hx] at h1
    | true =>
      simp only [List.takeWhile_cons, hx, if_true, List.length_cons] at h1 ⊢
      have := takeW_iff (p := p) l r (by omega) (by simpa using h)
      simp only [List.getElem_cons_succ]
      rw [this]
      omega
theorem takeW_le {α : Type} (p : α → Bool) : ∀ (l : List α), (l.takeWhile p).length ≤ l.length
  | [] => Nat.le_refl _
  | x :: l => by
    rw [List.takeWhile_cons]
    split
    · simp only [List.length_cons]
      have := takeW_le p l
      omega
    · simp
theorem runN_le {code : List InsN} {i : Nat} (hi : i ≤ code.length) : runN code i ≤ i := by
  unfold runN
  refine Nat.le_trans (takeW_le _ _) ?_
  rw [List.length_reverse, List.length_take]
  omega
theorem runN_iff {code : List InsN} {i r : Nat} (hi : i ≤ code.length) (h : r ≤ runN code i) (hr : r < i) : (argB (code[i - r - 1]'(by omega)) = true ↔ r < runN code i) := by
  have := takeW_iff (p := argB) (code.take i).reverse r h (by rw [List.length_reverse, List.length_take]; omega)
  unfold runN
  rw [← this]
  rw [List.getElem_reverse, List.getElem_take]
  have e : (code.take i).length - 1 - r = i - r - 1 := by rw [List.length_take]; omega
  simp only [e]
theorem grpGo_le (code : List InsN) (i : Nat) : ∀ n, grpGo code i n ≤ n
  | 0 => Nat.le_refl _
  | n + 1 => by
    unfold grpGo
    split
    · exact Nat.le_refl _
    · exact Nat.le_succ_of_le (grpGo_le code i n)
theorem setMany_length (l : List Int) (a : Nat) (v : Int) : ∀ n, (setMany l a v n).length = l.length
  | 0 => rfl
  | n + 1 => by unfold setMany; rw [List.length_set]; exact setMany_length l a v n
theorem fsOne_length (code : List InsN) (l : List Int) (i : Nat) : (fsOne code l i).length = l.length := by unfold fsOne; rw [List.length_set]
theorem fsStep_length (code : List InsN) (l : List Int) (i : Nat) : (fsStep code l i).length = l.length := by
  unfold fsStep
  split
  · rw [setMany_length, fsOne_length]
  · exact fsOne_length _ _ _
theorem fsTo_length (code : List InsN) : ∀ k, (fsTo code k).length = code.length
  | 0 => List.length_replicate
  | k + 1 => by unfold fsTo; rw [fsStep_length]; exact fsTo_length code k
/-- A slice of numbers in a new block. -/
def BlkRet (l : List Int) (w : World) (e : Ending) (w' : World) : Prop := Below w.heap.size w w' ∧ ∃ g, e = .returned (.slice (some ⟨g, 0, none⟩) l.length l.length) ∧ BI w' g l ∧ w.heap.size ≤ g
theorem bi_made (w : World) (n : Nat) : BI (w.alloc (.cells (madeCells #[.int .i64 0] n) 3)) w.heap.size (List.replicate n 0) := by
  refine ⟨_, heapn _ _ _ rfl, fun i hi => ?_⟩
  have hi' : i < n := by simpa using hi
  simp [madeCells, hi', Nat.mod_one]
theorem RdC.sub {w : World} {b off : Nat} {l : List InsN} (h : RdC w (some ⟨b, off, none⟩) l) (lo n : Nat) : RdC w (some ⟨b, off + lo * 4, none⟩) ((l.drop lo).take n) := by
  intro i hi
  have hi2 : lo + i < l.length := by rw [List.length_take, List.length_drop] at hi; omega
  obtain ⟨b', off', e, hlt, h0, h1, h2, h3⟩ := h (lo + i) hi2
  cases e
  have e1 : off + lo * 4 + i * 4 = off + (lo + i) * 4 := by omega
  refine ⟨b, off + lo * 4, rfl, hlt, ?_⟩
  rw [e1]
  simp only [List.getElem_take, List.getElem_drop]
  exact ⟨h0, h1, h2, h3⟩
set_option maxRecDepth 100000 in
set_option maxHeartbeats 8000000 in
theorem firsts_any (u : UntN) (ca : Option Addr) (cc : Nat) (ga : Option Addr) (gc : Nat) (w : World) (hm : UnM w u ca cc ga gc) (hlen : u.code.length ≤ 1000000) :
    Calls Tryz.prog 80 #[vU u ca cc ga gc] w (BlkRet (firstsL u.code) w) := by
  have HM := hid hm; clear hm
  have hlc := HM.out.lc
  have hmk := fun w => run_make_row' (P := Tryz.prog) 28 3 (.int .i64 0) 8 Tryz.underlying28 info3 rfl .i64 .i64 u.code.length (by omega) (by omega) w
  have HMD := hid (fun w => bi_made w u.code.length)
  obtain ⟨M, hM⟩ : ∃ M, M = madeCells #[.int .i64 0] u.code.length := ⟨_, rfl⟩
  rw [← hM] at hmk HMD
  clear hM
  have HX1 := hid (keepBox (bnew _ (.cells M 3)) (heapn w (oU u ca cc ga gc) _ rfl))
  have HB := hid ((bnew w (oU u ca cc ga gc)).step (bnew _ (.cells M 3)))
  have HG := hid (HMD.out (w.alloc (oU u ca cc ga gc)))
  rw [World.size_alloc] at HG
  clear HMD
  go_enter Tryz.func80, Tryz.ntmps80
  go_upto_region 2 with fail
  obtain ⟨w2, hw2⟩ : ∃ w2, w2 = (w.alloc (oU u ca cc ga gc)).alloc (.cells M 3) := ⟨_, rfl⟩
  rw [← hw2] at HX1 HB HG
  rw [← hw2]
  clear hw2 hmk
  have lg2 := HG.out.lt
  obtain ⟨k0, k1, k2, k3, k4, k5, k6⟩ := box7 HX1.out
  go_wp2
  clear k0 k1 k2 k3 k4 k5 k6
  go_loopg [16] u.code.length (fun gh s16 wr => ∃ k : Nat, k ≤ u.code.length ∧ gh = u.code.length - k ∧ s16 = .int .i64 k ∧ Hid (BI wr (w.heap.size + 1) (fsTo u.code k)) ∧ Hid (Below w.heap.size w wr ∧ wr.heap[w.heap.size]? = some (oU u ca cc ga gc)))
  case atStart => exact ⟨0, Nat.zero_le _, rfl, rfl, HG, hid ⟨HB.out, HX1.out⟩⟩
  case round =>
    obtain ⟨k, hk, rfl, rfl, HBI, HK⟩ := hrel
    by_cases hlk : k < u.code.length
    · obtain ⟨b2, off, ha, hlt2, c0, c1, c2, c3⟩ := (HM.out.rc.below HK.out.1) k hlk
      subst ha
      have nk : (k : Int) < (u.code.length : Int) := by omega
      have lfs : k < (fsTo u.code k).length := by rw [fsTo_length]; exact hlk
      have HS : Hid (fsTo u.code (k + 1) = fsStep u.code (fsTo u.code k) k) := hid rfl
      have HO : Hid (fsOne u.code (fsTo u.code k) k = (fsTo u.code k).set k (if argB u.code[k] = true then -1 else k)) := hid (by unfold fsOne; rw [getD_in hlk])
      have HST : Hid (fsStep u.code (fsTo u.code k) k = if callB u.code[k] = true ∧ 0 < grpN u.code k then setMany (fsOne u.code (fsTo u.code k) k) (k - grpN u.code k) (k - grpN u.code k : Nat) (grpN u.code k + 1) else fsOne u.code (fsTo u.code k) k) := hid (by unfold fsStep; rw [getD_in hlk])
      have HCA := hid (fun w' => calls_any u.code[k] w')
      have HAR : Hid (argB u.code[k] = (u.code[k].op == 19)) := hid rfl
      have HNC : Hid (argB u.code[k] = true → callB u.code[k] = false) := hid (fun h => by unfold argB at h; unfold callB; have := eq_of_beq h; rw [this]; rfl)
      obtain ⟨old, hold⟩ : ∃ v, wr.cell? ⟨w.heap.size + 1, k, none⟩ = some v := ⟨_, HBI.out.at lfs⟩
      have hfr := HBI.out.frozen k
      have lw1 : w.heap.size + 1 < wr.heap.size := HBI.out.lt
      generalize hx : u.code[k] = x at *
      clear hx
      cases ha : (x.op == 19) with
      | true =>
        rw [HAR.out, ha] at HO
        have hc := HNC.out (HAR.out.trans ha)
        rw [hc] at HCA HST
        replace HST := hid (HS.out.trans (HST.out.trans (if_neg (by simp))))
        replace HO := hid (HO.out.trans (congrArg _ (if_pos rfl)))
        clear hc HNC
        go_wp2_with (go_at_call 143; (with_reducible refine (HCA.out _).mono ?_); rintro e w3 ⟨rfl, hb⟩; have HB3 := hid hb; clear hb)
        go_roundg (u.code.length - (k + 1))
        case measure => omega
        case rel =>
          refine ⟨k + 1, by omega, rfl, by go_num, hid ?_, hid ⟨?_, ?_⟩⟩
          · have h2 := ((HBI.out.set lfs k).set (by rw [List.length_set]; exact lfs) (-1))
            rw [List.set_set] at h2
            rw [HST.out, HO.out]
            exact (h2.below (bnew _ _)).below HB3.out
          · exact ((((HK.out.1.setCell (p := ⟨w.heap.size + 1, k, none⟩) (by show w.heap.size ≤ w.heap.size + 1; omega) _).setCell (p := ⟨w.heap.size + 1, k, none⟩) (by show w.heap.size ≤ w.heap.size + 1; omega) _)).step (bnew _ _)).step HB3.out
          · exact keepBox HB3.out (keepBox (bnew _ _) ((heap_setCell_other _ _ _ _ (by show w.heap.size ≠ w.heap.size + 1; omega)).trans ((heap_setCell_other _ _ _ _ (by show w.heap.size ≠ w.heap.size + 1; omega)).trans HK.out.2)))
      | false =>
        rw [HAR.out, ha] at HO
        replace HO := hid (HO.out.trans (congrArg _ (if_neg (by simp))))
        clear HNC HAR
        cases hc : callB x with
        | false =>
          rw [hc] at HCA HST
          replace HST := hid (HS.out.trans (HST.out.trans (if_neg (by simp))))
          clear hc
          go_wp2_with (go_at_call 143; (with_reducible refine (HCA.out _).mono ?_); rintro e w3 ⟨rfl, hb⟩; have HB3 := hid hb; clear hb)
          go_roundg (u.code.length - (k + 1))
          case measure => omega
          case rel =>
            refine ⟨k + 1, by omega, rfl, by go_num, hid ?_, hid ⟨?_, ?_⟩⟩
            · rw [HST.out, HO.out]
              exact (((HBI.out.set lfs k)).below (bnew _ _)).below HB3.out
            · exact (((HK.out.1.setCell (p := ⟨w.heap.size + 1, k, none⟩) (by show w.heap.size ≤ w.heap.size + 1; omega) _)).step (bnew _ _)).step HB3.out
            · exact keepBox HB3.out (keepBox (bnew _ _) ((heap_setCell_other _ _ _ _ (by show w.heap.size ≠ w.heap.size + 1; omega)).trans HK.out.2))
        | true =>
          rw [hc] at HCA HST
          clear hc
          have HBO : Hid (∀ w3, Below ((wr.setCell ⟨w.heap.size + 1, k, none⟩ (.int .i64 k)).alloc (.cells #[.int .i64 x.op, .int .i64 x.a, .int .i64 x.b, .int .i64 x.c] 85)).heap.size ((wr.setCell ⟨w.heap.size + 1, k, none⟩ (.int .i64 k)).alloc (.cells #[.int .i64 x.op, .int .i64 x.a, .int .i64 x.b, .int .i64 x.c] 85)) w3 → BI w3 (w.heap.size + 1) (fsOne u.code (fsTo u.code k) k) ∧ Below w.heap.size w w3 ∧ w3.heap[w.heap.size]? = some (oU u (some ⟨b2, off, none⟩) cc ga gc)) := hid (fun w3 hb => by
            refine ⟨?_, ?_, ?_⟩
            · rw [HO.out]
              exact (((HBI.out.set lfs k)).below (bnew _ _)).below hb
            · exact (((HK.out.1.setCell (p := ⟨w.heap.size + 1, k, none⟩) (by show w.heap.size ≤ w.heap.size + 1; omega) _)).step (bnew _ _)).step hb
            · exact keepBox hb (keepBox (bnew _ _) ((heap_setCell_other _ _ _ _ (by show w.heap.size ≠ w.heap.size + 1; omega)).trans HK.out.2)))
          go_upto_region 9 with (go_at_call 143; (with_reducible refine (HCA.out _).mono ?_); rintro e w3 ⟨rfl, hb⟩; obtain ⟨hbi3, hb3, hx3⟩ := HBO.out w3 hb; have HB3 := hid (And.intro hbi3 (And.intro hb3 hx3)); clear hb hbi3 hb3 hx3)
          clear HBO HCA hold hfr c0 c1 c2 c3
          replace HST := hid (HS.out.trans HST.out)
          have hFl : (fsOne u.code (fsTo u.code k) k).length = u.code.length := by rw [fsOne_length, fsTo_length]
          generalize fsOne u.code (fsTo u.code k) k = F at *
          clear HO HS
          have hrl := runN_le (code := u.code) (i := k) (by omega)
          have HRI := hid (fun r h hr => runN_iff (code := u.code) (i := k) (r := r) (by omega) h hr)
          have HGL := hid (grpGo_le u.code k)
          have HGN : Hid (grpN u.code k = grpGo u.code k (runN u.code k)) := hid rfl
          generalize hrn : runN u.code k = rn at *
          clear hrn
          go_wp2
          go_loopg [6] rn (fun gh s6 wr => ∃ r : Nat, r ≤ rn ∧ gh = rn - r ∧ s6 = .int .i64 r ∧ Hid (w3 = wr))
          case atStart => exact ⟨0, Nat.zero_le _, rfl, rfl, hid rfl⟩
          case round =>
            obtain ⟨r, hr, rfl, rfl, HW⟩ := hrel
            have HB4 := HB3
            rw [HW.out] at HB4
            have kc := (cell_of_row _ _ 5 _ _ _ HB4.out.2.2).trans rfl
            by_cases hrr : r < rn
            · have hrk : r < k := by omega
              obtain ⟨q, hq⟩ : ∃ q, k = q + r + 1 := ⟨k - r - 1, by omega⟩
              have eq1 : (k : Int) - (r : Int) - 1 = (q : Int) := by omega
              have nq0 : (0 : Int) ≤ (q : Int) := by omega
              have nq1 : (q : Int) < (u.code.length : Int) := by omega
              have hql : q < u.code.length := by omega
              obtain ⟨b3, off3, ha3, hlt3, d0, d1, d2, d3⟩ := (HM.out.rc.below HB4.out.2.1) q hql
              cases ha3
              have hi := (HRI.out r hr hrk).2 hrr
              have e2 : k - r - 1 = q := by omega
              simp only [e2] at hi
              have HQ := hid hq
              have hy : (u.code[q].op == 19) = true := hi
              clear hq hi e2
              generalize u.code[q] = y at *
              go_wp2
              go_roundg (rn - (r + 1))
              case measure => omega
              case rel => exact ⟨r + 1, by omega, rfl, by go_num, HW⟩
            · obtain rfl : r = rn := by omega
              have hsplit : r = k ∨ ∃ (q : Nat) (y : InsN), (k : Int) - (r : Int) - 1 = (q : Int) ∧ q < u.code.length ∧ (y.op == 19) = false ∧ wr.cell? ⟨b2, off + q * 4, none⟩ = some (.int .i64 y.op) := by
                by_cases hrk : r < k
                · right
                  obtain ⟨q, hq⟩ : ∃ q, k = q + r + 1 := ⟨k - r - 1, by omega⟩
                  have hql : q < u.code.length := by omega
                  obtain ⟨b3, off3, ha3, hlt3, d0, d1, d2, d3⟩ := (HM.out.rc.below HB4.out.2.1) q hql
                  cases ha3
                  have hi := HRI.out r hr hrk
                  have e2 : k - r - 1 = q := by omega
                  simp only [e2] at hi
                  refine ⟨q, u.code[q], by omega, hql, ?_, d0⟩
                  cases h : (u.code[q].op == 19) with
                  | false => rfl
                  | true => exact absurd (hi.1 h) hrr
                · left
                  omega
              have HX4 := hid HB4.out.2.2
              have HL4 := hid hFl
              have HRL := hid hrl
              rcases hsplit with e1 | ⟨q, y, eq1, hql, hy, d0⟩
              case' inl =>
                have eq1 : (k : Int) - (r : Int) - 1 = -1 := by omega
                have HRK := hid e1
                clear e1
                go_upto_region 12 with fail
              case' inr =>
                have nq0 : (0 : Int) ≤ (q : Int) := by omega
                have nq1 : (q : Int) < (u.code.length : Int) := by omega
                go_upto_region 12 with fail
              all_goals
                clear eq1
                try clear hy d0
                obtain ⟨wo, hwo⟩ : ∃ wo, wo = wr := ⟨_, rfl⟩
                rw [← hwo] at HB4
                rw [← hwo]
                clear hwo kc HX4 hFl
                have hrl2 : r ≤ k := HRL.out
                go_wp2
                go_loopg [7] r (fun gh s7 wr => ∃ n : Nat, n ≤ r ∧ gh = 0 + n ∧ s7 = .int .i64 n ∧ Hid (grpGo u.code k n = grpN u.code k) ∧ Hid (BI wr (w.heap.size + 1) F ∧ Below w.heap.size w wr ∧ wr.heap[w.heap.size]? = some (oU u (some ⟨b2, off, none⟩) cc ga gc)))
                case atStart => exact ⟨r, Nat.le_refl _, by omega, rfl, hid HGN.out.symm, HB4⟩
                case round =>
                  obtain ⟨n, hn, rfl, rfl, HG2, HB5⟩ := hrel
                  have kc := (cell_of_row _ _ 5 _ _ _ HB5.out.2.2).trans rfl
                  rcases Nat.eq_zero_or_pos n with hn0 | hn0
                  · subst hn0
                    have hg0 : ¬ (True ∧ 0 < grpN u.code k) := by rw [← HG2.out]; show ¬ (True ∧ 0 < 0); omega
                    have HE := hid (HST.out.trans (if_neg hg0))
                    clear hg0
                    go_wp2
                    go_roundg (u.code.length - (k + 1))
                    case measure => omega
                    case rel => exact ⟨k + 1, by omega, rfl, by go_num, hid (by rw [HE.out]; exact HB5.out.1), hid HB5.out.2⟩
                  · obtain ⟨m, hm⟩ : ∃ m, n = m + 1 := ⟨n - 1, by omega⟩
                    obtain ⟨lo, hlo⟩ : ∃ lo, k = lo + n := ⟨k - n, by omega⟩
                    have nn0 : (0 : Int) < (n : Int) := by omega
                    have nn1 : (n : Int) ≤ (k : Int) := by omega
                    have eq2 : (k : Int) - (n : Int) = (lo : Int) := by omega
                    have nl0 : (lo : Int) ≤ (k : Int) := by omega
                    have nl1 : (k : Int) ≤ (cc : Int) := by omega
                    have nl2 : lo ≤ k := by omega
                    have nl3 : k ≤ cc := by omega
                    have hcl : ¬ cc = lo := by omega
                    have hkl : k - lo = n := by omega
                    have hsub := (HM.out.rc.below HB5.out.2.1).sub lo n
                    have hsl : ((u.code.drop lo).take n).length = n := by rw [List.length_take, List.length_drop]; omega
                    have hri := rising_any ((u.code.drop lo).take n) (some ⟨b2, off + lo * 4, none⟩) (cc - lo) wr hsub (by omega)
                    rw [hsl] at hri
                    have HRB := hid hri
                    have HGS : Hid (grpGo u.code k n = if risingB ((u.code.drop lo).take n) = true then n else grpGo u.code k m) := hid (by rw [hm]; show (if risingB ((u.code.drop (k - (m + 1))).take (m + 1)) = true then m + 1 else grpGo u.code k m) = _; rw [show k - (m + 1) = lo by omega])
                    have HMN := hid (And.intro hm hlo)
                    clear hm hlo hsub hsl hri
                    generalize risingB ((u.code.drop lo).take n) = rb at *
                    cases rb with
                    | true =>
                      have hgn : grpN u.code k = n := by rw [← HG2.out, HGS.out]; rfl
                      have HE : Hid (fsTo u.code (k + 1) = setMany F lo lo (n + 1)) := hid (by rw [HST.out, if_pos (by rw [hgn]; exact ⟨trivial, hn0⟩), hgn, show k - n = lo by omega])
                      clear hgn HGS HST
                      go_wp2_with (go_at_call 144; (with_reducible refine HRB.out.mono ?_); rintro e w6 ⟨rfl, hb⟩; have HB6 := hid (And.intro (HB5.out.1.below hb) (And.intro (HB5.out.2.1.step hb) (keepBox hb HB5.out.2.2))); clear hb)
                      clear kc eq2
                      obtain ⟨wp, hwp⟩ : ∃ wp, wp = w6 := ⟨_, rfl⟩
                      rw [← hwp] at HB6
                      rw [← hwp]
                      clear hwp
                      go_loopg [8] (k + 1 - lo) (fun gh s8 wr => ∃ q : Nat, (lo ≤ q ∧ q ≤ k + 1) ∧ gh = k + 1 - q ∧ s8 = .int .i64 q ∧ Hid (BI wr (w.heap.size + 1) (setMany F lo lo (q - lo)) ∧ Below w.heap.size w wr ∧ wr.heap[w.heap.size]? = some (oU u (some ⟨b2, off, none⟩) cc ga gc)))
                      case atStart => exact ⟨lo, ⟨Nat.le_refl _, by omega⟩, rfl, rfl, hid ⟨by rw [Nat.sub_self]; exact HB6.out.1, HB6.out.2⟩⟩
                      case round =>
                        obtain ⟨q2, ⟨hq2, hq3⟩, rfl, rfl, HB7⟩ := hrel
                        by_cases hqk : q2 ≤ k
                        · have nq2 : (q2 : Int) ≤ (k : Int) := by omega
                          have nq3 : (q2 : Int) < (u.code.length : Int) := by omega
                          have nq4 : (0 : Int) ≤ (q2 : Int) := by omega
                          have eq2 : (k : Int) - (n : Int) = (lo : Int) := by have := HMN.out; omega
                          have lq2 : q2 < (setMany F lo lo (q2 - lo)).length := by rw [setMany_length, HL4.out]; omega
                          obtain ⟨old2, hold2⟩ : ∃ v, wr.cell? ⟨w.heap.size + 1, q2, none⟩ = some v := ⟨_, HB7.out.1.at lq2⟩
                          have hfr2 := HB7.out.1.frozen q2
                          go_wp2
                          go_roundg (k + 1 - (q2 + 1))
                          case measure => omega
                          case rel =>
                            refine ⟨q2 + 1, ⟨by omega, by omega⟩, rfl, by go_num, hid ⟨?_, HB7.out.2.1.setCell (p := ⟨w.heap.size + 1, q2, none⟩) (by show w.heap.size ≤ w.heap.size + 1; omega) _, (heap_setCell_other _ _ _ _ (by show w.heap.size ≠ w.heap.size + 1; omega)).trans HB7.out.2.2⟩⟩
                            have h2 := HB7.out.1.set lq2 lo
                            rw [show q2 + 1 - lo = (q2 - lo) + 1 by omega]
                            show BI _ _ ((setMany F lo lo (q2 - lo)).set (lo + (q2 - lo)) lo)
                            rw [show lo + (q2 - lo) = q2 by omega]
                            exact h2
                        · have nq2 : ¬ (q2 : Int) ≤ (k : Int) := by omega
                          have HQN : Hid (q2 - lo = n + 1) := hid (by have := HMN.out; omega)
                          go_wp2
                          go_roundg (u.code.length - (k + 1))
                          case measure => omega
                          case rel => exact ⟨k + 1, by omega, rfl, by go_num, hid (by rw [HE.out, ← HQN.out]; exact HB7.out.1), hid HB7.out.2⟩
                    | false =>
                      have hgm : grpGo u.code k m = grpN u.code k := by rw [← HG2.out, HGS.out]; rfl
                      have HE := hid hgm
                      clear hgm
                      go_wp2_with (go_at_call 144; (with_reducible refine HRB.out.mono ?_); rintro e w6 ⟨rfl, hb⟩; have HB6 := hid (And.intro (HB5.out.1.below hb) (And.intro (HB5.out.2.1.step hb) (keepBox hb HB5.out.2.2))); clear hb)
                      go_roundg m
                      case measure => have := HMN.out.1; omega
                      case rel => exact ⟨m, by have := HMN.out.1; omega, by omega, by have := HMN.out.1; rw [this]; go_num, HE, HB6⟩
    · obtain rfl : k = u.code.length := by omega
      go_wp2
      go_ret
      exact ⟨HK.out.1, _, by rw [firstsL, fsTo_length]; rfl, HBI.out, by omega⟩
end Go.Proofs.YtgalekifgnecjaaGreat
