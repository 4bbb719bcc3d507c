/- The walk of TableRoom. -/
import Derived.Test.YtliajnflmddnoaaG24
namespace Go.Proofs.Ytliajnflmddnoaa
open Go.RowKit

theorem small_in {m : List (List Int)} (h : smallB m = true) (hm : RightM m) : m.length ≤ 12 ∧ colsN m ≤ 40 := by
  unfold smallB at h
  simp only [Bool.and_eq_true, Bool.or_eq_true, decide_eq_true_eq] at h
  obtain ⟨h1, h2⟩ := h
  have h3 := hm.rows
  refine ⟨by omega, ?_⟩
  have h0 := hm.some'
  have h4 := List.all_eq_true.1 h1 m[0] (List.getElem_mem h0)
  have h5 := hm.len 0 h0
  have h6 := hm.cols
  unfold lenOk at h4
  rw [h5] at h4
  simp at h4
  omega
theorem lay_fit {m : List (List Int)} (hm : RightM m) (h12 : m.length ≤ 12) : (layR m).starts.length = m.length ∧ (layR m).cells.length ≤ 4800 ∧ Fit (layR m) := by
  have h := lay_inv hm
  have h1 : (layR m).starts.length = m.length := h.len
  have h2 : (layR m).cells.length ≤ 4800 := by
    have h3 := h.size
    rw [order_length hm] at h3
    have : m.length * colsN m ≤ 12 * 400 := Nat.mul_le_mul h12 hm.cols
    exact Nat.le_trans h3 this
  exact ⟨h1, h2, by omega, by omega⟩
/-- The greatest start of the first rows. -/
def mxU (L : Ld) : Nat → Int
  | 0 => 0
  | i + 1 => max (mxU L i) (L.st i)
theorem mx_le {L : Ld} {k : Int} (h0 : 0 ≤ k) : ∀ i, (∀ j, j < i → L.st j ≤ k) → mxU L i ≤ k
  | 0, _ => h0
  | i + 1, h => by
    have h1 := mx_le h0 i fun j hj => h j (by omega)
    have h2 := h i (by omega)
    unfold mxU
    omega
theorem mx_ge {L : Ld} : ∀ i j, j < i → L.st j ≤ mxU L i
  | i + 1, j, h => by
    unfold mxU
    by_cases e : j = i
    · subst e; omega
    · have := mx_ge (L := L) i j (by omega)
      omega
theorem mx_nn (L : Ld) : ∀ i, 0 ≤ mxU L i
  | 0 => Int.le_refl _
  | i + 1 => by
    have := mx_nn L i
    unfold mxU
    omega
theorem sumM_succ (m : List (List Int)) (i : Nat) : sumM m (List.range (i + 1)) = sumM m (List.range i) + manyN (m.getD i []) := by
  unfold sumM
  rw [List.range_succ, List.map_append, List.sum_append]
  simp
theorem sumM_le {m : List (List Int)} (hm : RightM m) : ∀ i, i ≤ m.length → sumM m (List.range i) ≤ i * 400
  | 0, _ => Nat.zero_le _
  | i + 1, h => by
    have h1 := sumM_le hm i (by omega)
    have h2 := manyN_le (m.getD i [])
    have h3 := (hm.row (i := i) (by omega)).1
    have h4 := hm.cols
    rw [sumM_succ]
    omega

set_option maxRecDepth 100000 in
set_option maxHeartbeats 8000000 in
theorem room_ok (m : List (List Int)) (a : Option Addr) (cap : Nat) (w : World) (hl : RdM w a m) (hs : smallB m = true) (hE : chkM m = 0) :
    Calls Try.prog 6 #[.slice a m.length cap] w (RetB (.bool true) w) := by
  have HL := hid hl; clear hl
  have hm := chkM_ok hE
  have HM := hid hm
  obtain ⟨h12, h40⟩ := small_in hs hm
  obtain ⟨hsl, hcl, hfit⟩ := lay_fit hm h12
  have HFIT := hid hfit
  have HSL := hid hsl
  have HCL := hid hcl
  have hrl : ∀ r, r ∈ m → r.length ≤ 1000000 := fun r hr => by
    obtain ⟨i, hi, rfl⟩ := List.getElem_of_mem hr
    rw [hm.len i hi]
    omega
  have HSM := hid (fun (w : World) (h : RdM w a m) => (by
    have := small_any m a cap w h (by omega) (fun r hr => by have := hrl r hr; omega)
    rw [hs] at this; exact this : Calls Try.prog 13 #[.slice a m.length cap] w (RetS (.bool true) w)))
  have HCK := hid (fun (w : World) (h : RdM w a m) => (by have := check_any m a cap w h (by omega) hrl; rw [hE] at this; exact this : Calls Try.prog 28 #[.slice a m.length cap] w (RetS (.int .i64 0) w)))
  have HLY := hid (fun (w : World) (h : RdM w a m) => (by
    have := Lay_any m a cap w h (fun _ => by omega) (by omega) hrl
    rw [hE, show layV m = layR m from if_pos hE] at this
    exact this : Calls Try.prog 20 #[.slice a m.length cap] w (LdRet2 (layR m) 0 w)))
  have HSP := hid (fun (w : World) (sa : Option Addr) (sc : Nat) (ca : Option Addr) (cc : Nat) (h : LdM w (layR m) sa sc ca cc) => (by
    have := Spare_any (layR m) HFIT.out sa sc ca cc w h
    rw [(lay_right hm).chk, show spareV (layR m) = ((layR m).cells.countP noRow : Nat) from if_pos (lay_right hm).chk] at this
    unfold vL at this
    rw [hsl] at this
    exact this : Calls Try.prog 29 #[.agg #[.int .i64 (colsN m), .slice sa m.length sc, .slice ca (layR m).cells.length cc]] w (Ret2 (.int .i64 ((layR m).cells.countP noRow : Nat)) (.int .i64 0) w)))
  have HSUM := hid (lay_spare hm)
  have HTOP := hid (lay_top hm)
  have HST := hid (fun i (hi : i < m.length) => (lay_st hm hi))
  have hcle : (layR m).cells.countP noRow ≤ 4800 := Nat.le_trans List.countP_le_length hcl
  obtain ⟨b0, o0, ha, hlt0, ai0, ci0, hc0⟩ := HL.out.head hm.some'
  subst ha
  have HC0 := hid hc0
  have HSLE := hid (fun i (hi : i ≤ m.length) => sumM_le hm i hi)
  have n0 : (0 : Int) < (m.length : Int) := by have := hm.some'; omega
  have hd0 : ((m.length : Int) != (m.length : Int)) = false := by simp
  obtain ⟨sp, hsp⟩ : ∃ k, k = (layR m).cells.countP noRow := ⟨_, rfl⟩
  rw [← hsp] at HSP HSUM hcle
  clear hs hE hm hsl hcl hfit hrl hc0 hsp
  obtain ⟨cn, hcn⟩ : ∃ k, k = (layR m).cells.length := ⟨_, rfl⟩
  rw [← hcn] at HSP HSUM HTOP HCL
  have HCN := hid hcn
  clear hcn
  go_enter Try.func6, Try.ntmps6
  go_upto_region 5 with (first
    | (go_at_call 13; refine (HSM.out _ HL.out).mono ?_; rintro e w1 ⟨rfl, rfl⟩)
    | (go_at_call 28; refine (HCK.out _ HL.out).mono ?_; rintro e w1 ⟨rfl, rfl⟩)
    | (go_at_call 20; refine (HLY.out _ HL.out).mono ?_; rintro e w1 ⟨hb, sa, sc, ca, cc, rfl, hld⟩; rw [show vL (layR m) sa sc ca cc = .agg #[.int .i64 (colsN m), .slice sa m.length sc, .slice ca cn cc] from by unfold vL; rw [HSL.out, ← HCN.out]; rfl]; have HB1 := hid hb; have HLD := hid hld; clear hb hld)
    | (go_at_call 29; ((with_reducible refine (HSP.out _ sa sc ca cc (HLD.out.below (bnew _ _))).mono ?_); rintro e w2 ⟨rfl, hb⟩); have HX3 := hid (keepBox hb (heapn w1 (.cells #[.int .i64 (colsN m), .slice sa m.length sc, .slice ca cn cc] 44) _ rfl)); have HLD := hid ((HLD.out.below (bnew _ _)).below hb); have HB2 := hid (HB1.out.step ((bnew _ _).step hb)); clear hb))
  obtain ⟨k0, k1, k2, _, _, _⟩ := box3 HX3.out
  go_wp2_with fail
  clear k0 k1 k2 hd0
  obtain ⟨g3, hg3⟩ : ∃ g, g = w1.heap.size := ⟨_, rfl⟩
  rw [← hg3] at HX3
  rw [← hg3]
  clear hg3
  obtain ⟨k0, k1, k2, _, _, _⟩ := box3 HX3.out
  go_loopg [7, 8, 9] m.length (fun gh s7 s8 s9 wr => ∃ i : Nat, i ≤ m.length ∧ gh = m.length - i ∧ s9 = .int .i64 i ∧ s7 = .int .i64 (sumM m (List.range i) : Nat) ∧ s8 = .int .i64 (mxU (layR m) i) ∧ wr = w2)
  case atStart => exact ⟨0, Nat.zero_le _, rfl, rfl, rfl, rfl, rfl⟩
  case round =>
    obtain ⟨i, hi, rfl, rfl, rfl, rfl, rfl⟩ := hrel
    by_cases hlt : i < m.length
    · have ni : (i : Int) < (m.length : Int) := by omega
      obtain ⟨br, orr, har, hlr, ai, ci, hcr, hrr⟩ := (HL.out.below HB2.out).row hlt
      cases har
      have HROW := hid (HM.out.row hlt)
      have HRR := hid hrr
      have hsl := HSLE.out i hi
      obtain ⟨sc0, hsc0⟩ : ∃ s, s = sumM m (List.range i) := ⟨_, rfl⟩
      rw [← hsc0] at hsl
      rw [← hsc0]
      have HSC := hid hsc0
      obtain ⟨row, hrw⟩ : ∃ row, row = m.getD i [] := ⟨_, rfl⟩
      rw [← hrw] at hcr HRR HROW
      have HRW := hid hrw
      obtain ⟨sN, hst, hst2, _⟩ := HST.out i hlt
      obtain ⟨bs, os, hsa, hlts, q1⟩ := HLD.out.rs.at (i := i) (by rw [HSL.out]; exact hlt)
      have hst3 : (layR m).starts.getD i (-1) = (sN : Int) := hst
      rw [hst3] at q1
      have hmx : mxU (layR m) (i + 1) = max (mxU (layR m) i) sN := by show max _ ((layR m).st i) = _; rw [hst]
      have hmx0 := mx_nn (layR m) i
      have HMX := hid hmx
      have Q1 := hid q1
      have hsucc : sumM m (List.range (i + 1)) = sc0 + manyN row := by rw [sumM_succ, ← HSC.out, ← HRW.out]
      have HSU := hid hsucc
      have hsN : sN ≤ 4800 := by have := HCL.out; have := HCN.out; omega
      subst hsa
      generalize mxU (layR m) i = mx at *
      clear hsc0 hrw hst hst2 hst3 hmx q1 hsucc
      go_wp2_with fail
      go_loopg [7, 10] row.length (fun gh s7 s10 wr' => ∃ k : Nat, k ≤ row.length ∧ gh = row.length - k ∧ s10 = .int .i64 k ∧ s7 = .int .i64 ((sc0 + manyU row k : Nat) : Int) ∧ wr' = wr)
      case atStart => exact ⟨0, Nat.zero_le _, rfl, rfl, rfl, rfl⟩
      case round =>
        obtain ⟨k, hk, rfl, rfl, rfl, rfl⟩ := hrel
        have hle := manyU_le row k
        have hrow400 : row.length ≤ 400 := by rw [HROW.out.1]; exact HM.out.cols
        by_cases hlk : k < row.length
        · have nk : (k : Int) < (row.length : Int) := by omega
          obtain ⟨bq, oq, hai, hlq, h2⟩ := HRR.out.at hlk
          have hs := manyU_succ row k
          obtain ⟨x, hx⟩ : ∃ x, x = row.getD k (-1) := ⟨_, rfl⟩
          rw [← hx] at h2 hs
          obtain ⟨u, hu⟩ : ∃ u, u = manyU row k := ⟨_, rfl⟩
          rw [← hu] at hle hs
          rw [← hu]
          have HS := hid hs
          have HU := hid hu
          subst hai
          clear hx hs hu
          cases hn : nz x with
          | true =>
            rw [hn] at HS
            have hxx : (x != -1) = true := hn
            clear hn
            go_wp2
            go_roundg (row.length - (k + 1))
            case measure => omega
            case rel => exact ⟨k + 1, by omega, rfl, by go_num, by rw [HS.out]; go_num, rfl⟩
          | false =>
            rw [hn] at HS
            have hxx : (x != -1) = false := hn
            clear hn
            go_wp2
            go_roundg (row.length - (k + 1))
            case measure => omega
            case rel => exact ⟨k + 1, by omega, rfl, by go_num, by rw [HS.out]; rfl, rfl⟩
        · have hkl : k = row.length := by omega
          subst hkl
          have q1 := Q1.out
          go_wp2
          all_goals
            go_roundg (m.length - (i + 1))
            case measure => omega
            case rel =>
              refine ⟨i + 1, by omega, rfl, by go_num, ?_, ?_, rfl⟩
              · rw [HSU.out]
                rfl
              · rw [HMX.out]
                first
                  | rfl
                  | go_num
    · have him : i = m.length := by omega
      subst him
      have hmx1 : (cn : Int) = mxU (layR m) m.length + (colsN m : Int) := by
        obtain ⟨h1, j, hj, h2⟩ := HTOP.out
        have h3 := mx_ge (L := layR m) m.length j hj
        obtain ⟨s, h4, _⟩ := HST.out j hj
        have h5 := mx_le (L := layR m) (k := (cn : Int) - (colsN m : Int)) (by omega) m.length (fun q hq => by have := h1 q hq; omega)
        omega
      have hmx0 := mx_nn (layR m) m.length
      have hsum := HSUM.out
      have hcl := HCL.out
      have hc40 : colsN m ≤ 400 := HM.out.cols
      obtain ⟨nn, hnn⟩ : ∃ k, k = sumM m (List.range m.length) := ⟨_, rfl⟩
      obtain ⟨mx, hmx⟩ : ∃ k, k = mxU (layR m) m.length := ⟨_, rfl⟩
      rw [← hnn] at hsum
      rw [← hmx] at hmx1 hmx0
      rw [← hnn, ← hmx]
      clear hnn hmx
      have hw1 : IntKind.i64.wrap ((sp : Int) + (nn : Int)) = (sp : Int) + (nn : Int) := wrapk (by omega)
      have hw2 : IntKind.i64.wrap (mx + (colsN m : Int)) = mx + (colsN m : Int) := wrapk (by omega)
      have he1 : ((sp : Int) + (nn : Int) == (cn : Int)) = true := by simp; omega
      have he2 : ((cn : Int) == mx + (colsN m : Int)) = true := by simp; omega
      have n0n : 0 < m.length := by omega
      have n0e : m ≠ [] := by intro e; rw [e] at n0n; simp at n0n
      have n0d : decide (0 < m.length) = true := by simpa using n0n
      have K := hid (And.intro k2 (cell_later HB2.out HC0.out))
      have hb := bdrew wr
      clear hmx1 hsum k0 k1 k2
      go_upto_region 18 with fail
      go_region_held3 (fun w' => w'.cell? ⟨g3, 2, none⟩ = some (.slice ca cn cc) ∧ w'.cell? ⟨b0, o0, none⟩ = some (.slice ai0 (colsN m) ci0)) (first | exact K.out | exact ⟨cell_later hb K.out.1, cell_later hb K.out.2⟩)
        ((go_at_call 14; (refine (sanity_any _).mono ?_); rintro e w9 ⟨rfl, hbb⟩; have hb := hb.step hbb; clear hbb))
      have HB9 := hid hb
      clear hb hw1 hw2 he1 he2
      go_wp2
      go_ret
      exact ⟨rfl, HB2.out.step HB9.out⟩

theorem small_len {m : List (List Int)} (h : smallB m = true) : m.length ≤ 70 ∧ ∀ r, r ∈ m → r.length ≤ 420 := by
  unfold smallB at h
  simp only [Bool.and_eq_true, Bool.or_eq_true, decide_eq_true_eq] at h
  obtain ⟨h1, h2⟩ := h
  refine ⟨by omega, fun r hr => ?_⟩
  have h4 := List.all_eq_true.1 h1 r hr
  unfold lenOk at h4
  simp at h4
  omega
set_option maxRecDepth 100000 in
set_option maxHeartbeats 2000000 in
theorem room_any (m : List (List Int)) (a : Option Addr) (cap : Nat) (w : World) (hl : RdM w a m) (hlen : m.length ≤ 9223372036854775807) (hrl : ∀ r, r ∈ m → r.length ≤ 9223372036854775807) :
    Calls Try.prog 6 #[.slice a m.length cap] w (RetB (.bool true) w) := by
  have HSM := hid (small_any m a cap w hl hlen hrl)
  have HL := hid hl
  cases hs : smallB m with
  | false =>
    rw [hs] at HSM
    clear hl hrl hs
    go_enter Try.func6, Try.ntmps6
    go_wp2_with (first
      | (go_at_call 13; refine HSM.out.mono ?_; rintro e w1 ⟨rfl, rfl⟩)
      | (go_at_call 14; refine (sanity_any _).mono ?_; rintro e w1 ⟨rfl, hb⟩; have HB := hid hb; clear hb))
    go_ret
    exact ⟨rfl, HB.out⟩
  | true =>
    by_cases hE : chkM m = 0
    · exact room_ok m a cap w hl hs hE
    · rw [hs] at HSM
      obtain ⟨q1, q2⟩ := small_len hs
      have HCK := hid (check_any m a cap w hl (by omega) (fun r hr => by have := q2 r hr; omega))
      have hne : (chkM m == 0) = false := by rw [beq_eq_false_iff_ne]; exact hE
      have hne2 : (chkM m != 0) = true := by rw [bne, hne]; rfl
      clear hl hrl hs hE q2
      go_enter Try.func6, Try.ntmps6
      go_wp2_with (first
        | (go_at_call 13; refine HSM.out.mono ?_; rintro e w1 ⟨rfl, rfl⟩)
        | (go_at_call 28; refine HCK.out.mono ?_; rintro e w1 ⟨rfl, rfl⟩)
        | (go_at_call 14; refine (sanity_any _).mono ?_; rintro e w1 ⟨rfl, hb⟩; have HB := hid hb; clear hb))
      go_ret
      exact ⟨rfl, HB.out⟩
end Go.Proofs.Ytliajnflmddnoaa
