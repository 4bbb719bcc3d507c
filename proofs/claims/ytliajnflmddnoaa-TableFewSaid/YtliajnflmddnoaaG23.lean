/- Contracts of the reference's small functions, of comparing numbers and matrices, of the statements' sizes, and the example. -/
import Derived.Test.YtliajnflmddnoaaG22
namespace Go.Proofs.Ytliajnflmddnoaa
open Go.RowKit

theorem in_any (n lo hi : Int) (w : World) :
    Calls Try.prog 53 #[.int .i64 n, .int .i64 lo, .int .i64 hi] w (RetS (.bool (inB n lo hi)) w) := by
  go_enter Try.func53, Try.ntmps53
  go_wp2
  all_goals go_ret
  all_goals exact ⟨ret_bool (by simp [inB]; omega), rfl⟩
theorem rthere_any (e : Int) (w : World) : Calls Try.prog 76 #[.int .i64 e] w (RetS (.bool (thereB e)) w) := by
  obtain ⟨v, hv⟩ : ∃ v, v = thereB e := ⟨_, rfl⟩
  rw [← hv]
  unfold thereB at hv
  by_cases h1 : e = -1
  · have hd : (e != -1) = false := by simp [h1]
    have HV : Hid (v = false) := hid (by rw [hv, h1]; rfl)
    clear hv h1
    go_enter Try.func76, Try.ntmps76
    go_wp2
    go_ret
    exact ⟨ret_bool HV.out.symm, rfl⟩
  · have hd : (e != -1) = true := by simp [h1]
    by_cases h2 : -402 ≤ e
    · by_cases h3 : e ≤ 10000
      · have HV : Hid (v = true) := hid (by rw [hv]; simp; omega)
        clear hv h1
        go_enter Try.func76, Try.ntmps76
        go_wp2
        go_ret
        exact ⟨ret_bool HV.out.symm, rfl⟩
      · have HV : Hid (v = false) := hid (by rw [hv, Bool.eq_false_iff]; simp; omega)
        clear hv h1
        go_enter Try.func76, Try.ntmps76
        go_wp2
        go_ret
        exact ⟨ret_bool HV.out.symm, rfl⟩
    · have HV : Hid (v = false) := hid (by rw [hv, Bool.eq_false_iff]; simp; omega)
      clear hv h1
      go_enter Try.func76, Try.ntmps76
      go_wp2
      go_ret
      exact ⟨ret_bool HV.out.symm, rfl⟩
theorem rright_any (e : Int) (w : World) : Calls Try.prog 60 #[.int .i64 e] w (RetS (.bool (rightB e)) w) := by
  go_enter Try.func60, Try.ntmps60
  go_wp2_with (go_at_call 76; refine (rthere_any _ _).mono ?_; rintro e w' ⟨rfl, rfl⟩)
  all_goals go_ret
  all_goals refine ⟨ret_bool ?_, rfl⟩
  all_goals unfold rightB
  all_goals simp_all

set_option maxHeartbeats 1000000 in
theorem same_ints (x y : List Int) (a b : Option Addr) (cap cap' : Nat) (w : World) (hx : RdI w a x) (hy : RdI w b y) (hl : x.length ≤ 1000000) (hl' : y.length ≤ 1000000) :
    Calls Try.prog 46 #[.slice a x.length cap, .slice b y.length cap'] w (RetB (.bool (decide (x = y))) w) := by
  have HX := hid hx; clear hx
  have HY := hid hy; clear hy
  by_cases hlen : x.length = y.length
  · have HLEN := hid hlen
    have hne : ((x.length : Int) != (y.length : Int)) = false := by simp [hlen]
    clear hlen
    go_enter Try.func46, Try.ntmps46
    go_wp2
    clear hne
    go_loopw [5] (fun i wr => ∃ k : Nat, k ≤ x.length ∧ i = .int .i64 k ∧ Below w.heap.size w wr ∧ x.take k = y.take k) (fun i _ => x.length - (intOf i).toNat)
    case atStart => exact ⟨0, Nat.zero_le _, rfl, Below.refl _ _, rfl⟩
    case round =>
      obtain ⟨k, hk, rfl, hbw, hq⟩ := hrel
      have HQ := hid hq; clear hq
      by_cases hlt : k < x.length
      · have hlt' : k < y.length := by have := HLEN.out; omega
        obtain ⟨b1, o1, ha, h1, hc1⟩ := HX.out.below hbw k hlt
        obtain ⟨b2, o2, hb, h2, hc2⟩ := HY.out.below hbw k hlt'
        subst ha; subst hb
        go_upto_region 6 with fail
        go_quiet (fail)
        go_wp2
        · have ht : (x[k] != y[k]) = true := by assumption
          go_ret
          refine ⟨ret_bool ?_, bdrewN hbw _⟩
          rw [eq_comm, decide_eq_false_iff_not]
          rintro rfl
          simp at ht
        · have ht : (x[k] != y[k]) = false := by assumption
          go_roundw
          case rel =>
            refine ⟨k + 1, by omega, by go_num, bdrewN hbw _, ?_⟩
            rw [take_last hlt, take_last hlt', HQ.out]
            have : x[k] = y[k] := by simpa using ht
            rw [this]
          case measure => simp [intOf]; omega
      · go_wp2
        go_ret
        refine ⟨ret_bool ?_, hbw⟩
        rw [eq_comm, decide_eq_true_eq]
        have h := HQ.out
        rw [List.take_of_length_le (by omega), List.take_of_length_le (by have := HLEN.out; omega)] at h
        exact h
  · have hne : ((x.length : Int) != (y.length : Int)) = true := by simp; omega
    go_enter Try.func46, Try.ntmps46
    go_wp2
    go_ret
    refine ⟨ret_bool ?_, Below.refl _ _⟩
    rw [eq_comm, decide_eq_false_iff_not]
    rintro rfl
    exact hlen rfl

set_option maxRecDepth 100000 in
set_option maxHeartbeats 2000000 in
theorem same_matrix (x y : List (List Int)) (a b : Option Addr) (cap cap' : Nat) (w : World) (hx : RdM w a x) (hy : RdM w b y) (hl : x.length ≤ 1000000) (hl' : y.length ≤ 1000000) (hxr : ∀ r, r ∈ x → r.length ≤ 1000000) (hyr : ∀ r, r ∈ y → r.length ≤ 1000000) :
    Calls Try.prog 38 #[.slice a x.length cap, .slice b y.length cap'] w (RetB (.bool (decide (x = y))) w) := by
  have HX := hid hx; clear hx
  have HY := hid hy; clear hy
  have HXR := hid hxr; clear hxr
  have HYR := hid hyr; clear hyr
  by_cases hlen : x.length = y.length
  · have HLEN := hid hlen
    have hne : ((x.length : Int) != (y.length : Int)) = false := by simp [hlen]
    clear hlen
    go_enter Try.func38, Try.ntmps38
    go_wp2
    clear hne
    go_loopg [5] x.length (fun gh i wr => ∃ k : Nat, k ≤ x.length ∧ gh = x.length - k ∧ i = .int .i64 k ∧ Hid (Below w.heap.size w wr) ∧ Hid (x.take k = y.take k))
    case atStart => exact ⟨0, Nat.zero_le _, rfl, rfl, hid (Below.refl _ _), hid rfl⟩
    case round =>
      obtain ⟨k, hk, rfl, rfl, HB, HQ⟩ := hrel
      by_cases hlt : k < x.length
      · have hlt' : k < y.length := by have := HLEN.out; omega
        obtain ⟨b1, o1, ha, h1, a1, c1, hc1, hr1⟩ := HX.out.below HB.out k hlt
        obtain ⟨b2, o2, hb', h2, a2, c2, hc2, hr2⟩ := HY.out.below HB.out k hlt'
        have n1 : (k : Int) < (x.length : Int) := by omega
        have n2 : (k : Int) < (y.length : Int) := by omega
        have HC1 := hid hc1
        have HC2 := hid hc2
        have HS := hid fun (w : World) (q1 : RdI w a1 x[k]) (q2 : RdI w a2 y[k]) => same_ints x[k] y[k] a1 a2 c1 c2 w q1 q2 (HXR.out _ (List.getElem_mem hlt)) (HYR.out _ (List.getElem_mem hlt'))
        have HR1 := hid hr1
        have HR2 := hid hr2
        obtain ⟨eq, heq⟩ : ∃ q, q = decide (x[k] = y[k]) := ⟨_, rfl⟩
        rw [← heq] at HS
        have HEQ := hid heq
        subst ha; subst hb'
        clear hc1 hc2 hr1 hr2 heq
        have hb := bdrew wr
        go_upto_region 6 with fail
        go_region_held3 (fun w' => w'.cell? ⟨b1, o1 + k, none⟩ = some (.slice a1 x[k].length c1) ∧ w'.cell? ⟨b2, o2 + k, none⟩ = some (.slice a2 y[k].length c2)) (first | exact ⟨HC1.out, HC2.out⟩ | exact ⟨cell_later hb HC1.out, cell_later hb HC2.out⟩)
          ((go_at_call 46; (with_reducible refine (HS.out _ (HR1.out.below hb) (HR2.out.below hb)).mono ?_); rintro e w9 ⟨rfl, hbb⟩; have hb := hb.step hbb; clear hbb))
        have HB9 := hid (HB.out.step hb)
        clear hb
        cases eq with
        | false =>
          go_wp2
          go_ret
          refine ⟨ret_bool ?_, HB9.out⟩
          rw [eq_comm, decide_eq_false_iff_not]
          rintro rfl
          have := HEQ.out
          simp at this
        | true =>
          go_wp2
          go_roundg (x.length - (k + 1))
          case measure => omega
          case rel =>
            refine ⟨k + 1, by omega, rfl, by go_num, HB9, hid ?_⟩
            rw [take_last hlt, take_last hlt', HQ.out, of_decide_eq_true HEQ.out.symm]
      · go_wp2
        go_ret
        refine ⟨ret_bool ?_, HB.out⟩
        rw [eq_comm, decide_eq_true_eq]
        have h := HQ.out
        rw [List.take_of_length_le (by omega), List.take_of_length_le (by have := HLEN.out; omega)] at h
        exact h
  · have hne : ((x.length : Int) != (y.length : Int)) = true := by simp; omega
    go_enter Try.func38, Try.ntmps38
    go_wp2
    go_ret
    refine ⟨ret_bool ?_, Below.refl _ _⟩
    rw [eq_comm, decide_eq_false_iff_not]
    rintro rfl
    exact hlen rfl

def manyU (r : List Int) (k : Nat) : Nat := (fullU r k).length
theorem manyU_succ (r : List Int) (k : Nat) : manyU r (k + 1) = if nz (r.getD k (-1)) = true then manyU r k + 1 else manyU r k := by
  unfold manyU
  rw [fullU_succ]
  split <;> simp
theorem manyU_le (r : List Int) (k : Nat) : manyU r k ≤ k := fullU_length r k
set_option maxHeartbeats 1000000 in
theorem many_any (r : List Int) (a : Option Addr) (cap : Nat) (w : World) (hl : RdI w a r) (hlen : r.length ≤ 1000000) :
    Calls Try.prog 74 #[.slice a r.length cap] w (RetS (.int .i64 (manyN r : Nat)) w) := by
  have HL := hid hl; clear hl
  go_enter Try.func74, Try.ntmps74
  go_wp2
  go_loop [3, 4] (fun c i => ∃ k : Nat, k ≤ r.length ∧ i = .int .i64 k ∧ c = .int .i64 (manyU r k : Nat)) (fun _ i => r.length - (intOf i).toNat)
  case atStart => exact ⟨0, Nat.zero_le _, rfl, rfl⟩
  case round =>
    obtain ⟨k, hk, rfl, rfl⟩ := hrel
    by_cases hlt : k < r.length
    · obtain ⟨b2, off, ha, hlt2, h1⟩ := HL.out.at hlt
      subst ha
      have hs := manyU_succ r k
      have hle := manyU_le r k
      generalize r.getD k (-1) = x at *
      have HS := hid hs
      clear hs
      cases hn : nz x with
      | true =>
        rw [hn] at HS
        have hx : (x != -1) = true := hn
        clear hn
        go_wp2
        go_round
        case rel => exact ⟨k + 1, by omega, by go_num, by rw [HS.out]; go_num⟩
        case measure => simp [intOf]; omega
      | false =>
        rw [hn] at HS
        have hx : (x != -1) = false := hn
        clear hn
        go_wp2
        go_round
        case rel => exact ⟨k + 1, by omega, by go_num, by rw [HS.out]; rfl⟩
        case measure => simp [intOf]; omega
    · have hkl : k = r.length := by omega
      subst hkl
      go_wp2
      go_ret
      exact ⟨rfl, rfl⟩

/-- The sizes that the statements speak of. -/
def lenOk (r : List Int) : Bool := !((decide (40 < r.length) && decide (r.length ≤ 400)) || decide (420 < r.length))
def smallB (m : List (List Int)) : Bool := m.all lenOk && (decide (m.length ≤ 12) || (decide (60 < m.length) && decide (m.length ≤ 70)))
theorem small_all {m : List (List Int)} (h : m.all lenOk = false) : smallB m = false := by unfold smallB; rw [h]; rfl
set_option maxRecDepth 100000 in
set_option maxHeartbeats 4000000 in
theorem small_any (m : List (List Int)) (a : Option Addr) (cap : Nat) (w : World) (hl : RdM w a m) (hlen : m.length ≤ 9223372036854775807) (hrl : ∀ r, r ∈ m → r.length ≤ 9223372036854775807) :
    Calls Try.prog 13 #[.slice a m.length cap] w (RetS (.bool (smallB m)) w) := by
  have HL := hid hl; clear hl
  have HR := hid hrl; clear hrl
  go_enter Try.func13, Try.ntmps13
  go_wp2
  go_loop [3] (fun i => ∃ k : Nat, k ≤ m.length ∧ i = .int .i64 k ∧ Hid (∀ x, x ∈ m.take k → lenOk x = true)) (fun i => m.length - (intOf i).toNat)
  case atStart => exact ⟨0, Nat.zero_le _, rfl, hid (by simp)⟩
  case round =>
    obtain ⟨k, hk, rfl, HQ⟩ := hrel
    by_cases hlt : k < m.length
    · obtain ⟨b2, off, ha, hlt2, ai, ci, h1, _⟩ := HL.out k hlt
      have hlk : m[k].length ≤ 9223372036854775807 := HR.out _ (List.getElem_mem hlt)
      have HM := hid fun (h : lenOk m[k] = false) => small_all (m := m) (by
        rw [List.all_eq_false]
        exact ⟨_, List.getElem_mem hlt, by rw [h]; simp⟩)
      have HU : Hid (lenOk m[k] = !((decide (40 < m[k].length) && decide (m[k].length ≤ 400)) || decide (420 < m[k].length))) := hid rfl
      obtain ⟨lb, hlb⟩ : ∃ b, b = lenOk m[k] := ⟨_, rfl⟩
      have HLB := hid hlb
      rw [← hlb] at HM HU
      generalize m[k].length = n at *
      subst ha
      clear hlb
      have n1 : (k : Int) < (m.length : Int) := by omega
      by_cases g1 : n ≤ 40
      · have g1' : ¬ (40 : Int) < (n : Int) := by omega
        have g2' : ¬ (420 : Int) < (n : Int) := by omega
        have hb : lb = true := by rw [HU.out]; simp; omega
        have HB := hid hb
        clear hb
        go_wp2
        go_round
        case rel =>
          refine ⟨k + 1, by omega, by go_num, hid ?_⟩
          intro x hx
          rw [take_last hlt, List.mem_append] at hx
          rcases hx with hx | hx
          · exact HQ.out x hx
          · rw [List.mem_singleton.1 hx, ← HLB.out, HB.out]
        case measure => simp [intOf]; omega
      · have g1' : (40 : Int) < (n : Int) := by omega
        by_cases g2 : n ≤ 400
        · have g2' : (n : Int) ≤ 400 := by omega
          have hb : lb = false := by rw [HU.out]; simp; omega
          have HB := hid (HM.out hb)
          clear hb
          go_wp2
          go_ret
          exact ⟨ret_bool HB.out.symm, rfl⟩
        · have g2' : ¬ (n : Int) ≤ 400 := by omega
          by_cases g3 : n ≤ 420
          · have g3' : ¬ (420 : Int) < (n : Int) := by omega
            have hb : lb = true := by rw [HU.out]; simp; omega
            have HB := hid hb
            clear hb
            go_wp2
            go_round
            case rel =>
              refine ⟨k + 1, by omega, by go_num, hid ?_⟩
              intro x hx
              rw [take_last hlt, List.mem_append] at hx
              rcases hx with hx | hx
              · exact HQ.out x hx
              · rw [List.mem_singleton.1 hx, ← HLB.out, HB.out]
            case measure => simp [intOf]; omega
          · have g3' : (420 : Int) < (n : Int) := by omega
            have hb : lb = false := by rw [HU.out]; simp; omega
            have HB := hid (HM.out hb)
            clear hb
            go_wp2
            go_ret
            exact ⟨ret_bool HB.out.symm, rfl⟩
    · have hkm : k = m.length := by omega
      subst hkm
      have hall : m.all lenOk = true := by
        rw [List.all_eq_true]
        intro x hx
        exact HQ.out x (by rw [List.take_of_length_le (Nat.le_refl _)]; exact hx)
      have HS : Hid (smallB m = (decide (m.length ≤ 12) || (decide (60 < m.length) && decide (m.length ≤ 70)))) := hid (by unfold smallB; rw [hall]; rfl)
      clear hall
      by_cases g1 : m.length ≤ 12
      · have g1' : (m.length : Int) ≤ 12 := by omega
        go_wp2
        go_ret
        exact ⟨ret_bool (by rw [HS.out]; simp; omega), rfl⟩
      · have g1' : ¬ (m.length : Int) ≤ 12 := by omega
        by_cases g2 : 60 < m.length
        · have g2' : (60 : Int) < (m.length : Int) := by omega
          by_cases g3 : m.length ≤ 70
          · have g3' : (m.length : Int) ≤ 70 := by omega
            go_wp2
            go_ret
            exact ⟨ret_bool (by rw [HS.out]; simp; omega), rfl⟩
          · have g3' : ¬ (m.length : Int) ≤ 70 := by omega
            go_wp2
            go_ret
            exact ⟨ret_bool (by rw [HS.out, eq_comm, Bool.eq_false_iff]; simp; omega), rfl⟩
        · have g2' : ¬ (60 : Int) < (m.length : Int) := by omega
          go_wp2
          go_ret
          exact ⟨ret_bool (by rw [HS.out, eq_comm, Bool.eq_false_iff]; simp; omega), rfl⟩
def lightB (L : Ld) : Bool := (decide (L.starts.length ≤ 70) && decide (L.cells.length ≤ 600)) && decide (L.cols ≤ 60)
set_option maxHeartbeats 1000000 in
theorem light_any (L : Ld) (sa : Option Addr) (sc : Nat) (ca : Option Addr) (cc : Nat) (w : World) (h1 : L.starts.length ≤ 9223372036854775807) (h2 : L.cells.length ≤ 9223372036854775807) :
    Calls Try.prog 23 #[vL L sa sc ca cc] w (RetB (.bool (lightB L)) w) := by
  have HB0 := hid (bnew w (.cells #[.int .i64 L.cols, .slice sa L.starts.length sc, .slice ca L.cells.length cc] 44))
  obtain ⟨k0, k1, k2, _, _, _⟩ := box3 (heapn w (.cells #[.int .i64 L.cols, .slice sa L.starts.length sc, .slice ca L.cells.length cc] 44) _ rfl)
  have HV : Hid (lightB L = ((decide (L.starts.length ≤ 70) && decide (L.cells.length ≤ 600)) && decide (L.cols ≤ 60))) := hid rfl
  generalize lightB L = lb at *
  by_cases g1 : L.starts.length ≤ 70
  · have g1' : (L.starts.length : Int) ≤ 70 := by omega
    by_cases g2 : L.cells.length ≤ 600
    · have g2' : (L.cells.length : Int) ≤ 600 := by omega
      by_cases g3 : L.cols ≤ 60
      · go_enter Try.func23, Try.ntmps23
        go_wp2
        go_ret
        exact ⟨ret_bool (by rw [HV.out]; simp; omega), HB0.out⟩
      · go_enter Try.func23, Try.ntmps23
        go_wp2
        go_ret
        exact ⟨ret_bool (by rw [HV.out, eq_comm, Bool.eq_false_iff]; simp; omega), HB0.out⟩
    · have g2' : ¬ (L.cells.length : Int) ≤ 600 := by omega
      go_enter Try.func23, Try.ntmps23
      go_wp2
      go_ret
      exact ⟨ret_bool (by rw [HV.out, eq_comm, Bool.eq_false_iff]; simp; omega), HB0.out⟩
  · have g1' : ¬ (L.starts.length : Int) ≤ 70 := by omega
    go_enter Try.func23, Try.ntmps23
    go_wp2
    go_ret
    exact ⟨ret_bool (by rw [HV.out, eq_comm, Bool.eq_false_iff]; simp; omega), HB0.out⟩
end Go.Proofs.Ytliajnflmddnoaa
