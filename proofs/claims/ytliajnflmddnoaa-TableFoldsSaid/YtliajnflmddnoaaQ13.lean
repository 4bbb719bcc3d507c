/- Contracts of the reference's SameLaid and SameFolded, at equal values. -/
import Derived.Test.YtliajnflmddnoaaQ10
import Derived.Test.YtliajnflmddnoaaG24
namespace Go.Proofs.Ytliajnflmddnoaa
open Go.RowKit

theorem neq99 (a b : Int) (w : World) : (binOp .neq 99 (.agg #[.int .i64 a, .int .i64 b]) (.agg #[.int .i64 a, .int .i64 b])).run Try.prog w = .ok (.bool false) w := by
  rw [run_neq_struct, eq99 a b a b, decide_eq_true rfl]
  rfl
theorem neq97 (a b : Int) (w : World) : (binOp .neq 97 (.agg #[.int .i64 a, .int .i64 b]) (.agg #[.int .i64 a, .int .i64 b])).run Try.prog w = .ok (.bool false) w := by
  rw [run_neq_struct, eq97 a b a b, decide_eq_true rfl]
  rfl

set_option maxRecDepth 100000 in
set_option maxHeartbeats 4000000 in
theorem same_laid (L : Ld) (hf : Fit L) (sa : Option Addr) (sc : Nat) (ca : Option Addr) (cc : Nat) (sb : Option Addr) (sd : Nat) (cb : Option Addr) (cd : Nat) (w : World) (h1 : LdM w L sa sc ca cc) (h2 : LdM w L sb sd cb cd) :
    Calls Try.prog 22 #[vL L sa sc ca cc, vL L sb sd cb cd] w (RetB (.bool true) w) := by
  have HM := hid h1; clear h1
  have HN := hid h2; clear h2
  have hfs := hf.s
  have hfc := hf.c
  obtain ⟨hb0, hx0, hr0⟩ := two_new w #[.int .i64 L.cols, .slice sa L.starts.length sc, .slice ca L.cells.length cc] #[.int .i64 L.cols, .slice sb L.starts.length sd, .slice cb L.cells.length cd] 44 44
  have HSI := hid (fun (w : World) (h1 : RdI w sa L.starts) (h2 : RdI w sb L.starts) => (by
    have := same_ints L.starts L.starts sa sb sc sd w h1 h2 (by omega) (by omega)
    rw [decide_eq_true rfl] at this
    exact this : Calls Try.prog 46 #[.slice sa L.starts.length sc, .slice sb L.starts.length sd] w (RetB (.bool true) w)))
  have HB0 := hid hb0
  have HX0 := hid hx0
  have HR0 := hid hr0
  obtain ⟨k0, k1, k2, _, _, _⟩ := box3 hx0
  obtain ⟨j0, j1, j2, _, _, _⟩ := box3 hr0
  have e1 : (L.cols != L.cols) = false := by simp
  have e2 : ((L.starts.length : Int) != (L.starts.length : Int)) = false := by simp
  have e3 : ((L.cells.length : Int) != (L.cells.length : Int)) = false := by simp
  clear hb0 hx0 hr0 hf
  go_enter Try.func22, Try.ntmps22
  go_wp2_with (go_at_call 46; (with_reducible refine (HSI.out _ (HM.out.rs.below HB0.out) (HN.out.rs.below HB0.out)).mono ?_); rintro e w1 ⟨rfl, hb⟩; have HB := hid (HB0.out.step hb); have HX := hid (keepBox hb HX0.out); have HR := hid (keepBox hb HR0.out); obtain ⟨k0, k1, k2, _, _, _⟩ := box3 HX.out; obtain ⟨j0, j1, j2, _, _, _⟩ := box3 HR.out; clear hb)
  clear k0 k1 k2 j0 j1 j2
  go_loopg [6] L.cells.length (fun gh s6 wr => ∃ k : Nat, k ≤ L.cells.length ∧ gh = L.cells.length - k ∧ s6 = .int .i64 k ∧ Hid (Below w1.heap.size w1 wr))
  case atStart => exact ⟨0, Nat.zero_le _, rfl, rfl, hid (Below.refl _ _)⟩
  case round =>
    obtain ⟨k, hk, rfl, rfl, HK⟩ := hrel
    obtain ⟨k0, k1, k2, _, _, _⟩ := box3 (keepBox HK.out HX.out)
    obtain ⟨j0, j1, j2, _, _, _⟩ := box3 (keepBox HK.out HR.out)
    by_cases hlt : k < L.cells.length
    · have n1 : (k : Int) < (L.cells.length : Int) := by omega
      obtain ⟨b, off, hca, hltb, x1, x2⟩ := (HM.out.rc.below (HB.out.step HK.out)).at hlt
      obtain ⟨b', off', hcb, hltb', y1, y2⟩ := (HN.out.rc.below (HB.out.step HK.out)).at hlt
      generalize L.cells.getD k (-1, 0) = p at *
      obtain ⟨x, y⟩ := p
      simp only at x1 x2 y1 y2
      have q99 := fun w => neq99 x y w
      have G99 := g99
      subst hca
      subst hcb
      go_upto_region 7 with fail
      go_quiet (fail)
      go_wp2
      go_roundg (L.cells.length - (k + 1))
      case measure => omega
      case rel => exact ⟨k + 1, by omega, rfl, by go_num, hid (bdrewN HK.out _)⟩
    · go_wp2
      go_ret
      exact ⟨rfl, HB.out.step HK.out⟩

set_option maxRecDepth 100000 in
set_option maxHeartbeats 4000000 in
theorem same_folded (C : List Int) (R : List (List (Int × Int))) (ac : Option Addr) (cc : Nat) (ar : Option Addr) (cr : Nat) (bc : Option Addr) (dc : Nat) (br : Option Addr) (dr : Nat) (w : World) (hC : C.length ≤ 1000000) (hR : R.length ≤ 1000000) (hr : ∀ q, q ∈ R → q.length ≤ 1000000) (h1 : RdI w ac C) (h2 : RdG w ar R) (h3 : RdI w bc C) (h4 : RdG w br R) :
    Calls Try.prog 19 #[.agg #[.slice ac C.length cc, .slice ar R.length cr], .agg #[.slice bc C.length dc, .slice br R.length dr]] w (RetB (.bool true) w) := by
  have H1 := hid h1; clear h1
  have H2 := hid h2; clear h2
  have H3 := hid h3; clear h3
  have H4 := hid h4; clear h4
  have HRR := hid hr; clear hr
  obtain ⟨hb0, hx0, hr0⟩ := two_new w #[.slice ac C.length cc, .slice ar R.length cr] #[.slice bc C.length dc, .slice br R.length dr] 26 26
  have HSI := hid (fun (w : World) (h1 : RdI w ac C) (h2 : RdI w bc C) => (by
    have := same_ints C C ac bc cc dc w h1 h2 (by omega) (by omega)
    rw [decide_eq_true rfl] at this
    exact this : Calls Try.prog 46 #[.slice ac C.length cc, .slice bc C.length dc] w (RetB (.bool true) w)))
  have HB0 := hid hb0
  have HX0 := hid hx0
  have HR0 := hid hr0
  obtain ⟨k0, k1, _, _⟩ := box2 hx0
  obtain ⟨j0, j1, _, _⟩ := box2 hr0
  have e2 : ((R.length : Int) != (R.length : Int)) = false := by simp
  clear hb0 hx0 hr0
  go_enter Try.func19, Try.ntmps19
  go_wp2_with (go_at_call 46; (with_reducible refine (HSI.out _ (H1.out.below HB0.out) (H3.out.below HB0.out)).mono ?_); rintro e w1 ⟨rfl, hb⟩; have HB := hid (HB0.out.step hb); have HX := hid (keepBox hb HX0.out); have HR := hid (keepBox hb HR0.out); obtain ⟨k0, k1, _, _⟩ := box2 HX.out; obtain ⟨j0, j1, _, _⟩ := box2 HR.out; clear hb)
  clear k0 k1 j0 j1
  go_loopg [6] R.length (fun gh s6 wr => ∃ k : Nat, k ≤ R.length ∧ gh = R.length - k ∧ s6 = .int .i64 k ∧ Hid (Below w1.heap.size w1 wr))
  case atStart => exact ⟨0, Nat.zero_le _, rfl, rfl, hid (Below.refl _ _)⟩
  case round =>
    obtain ⟨k, hk, rfl, rfl, HK⟩ := hrel
    obtain ⟨k0, k1, _, _⟩ := box2 (keepBox HK.out HX.out)
    obtain ⟨j0, j1, _, _⟩ := box2 (keepBox HK.out HR.out)
    by_cases hlt : k < R.length
    · have n1 : (k : Int) < (R.length : Int) := by omega
      obtain ⟨b, off, hca, hltb, ai, ci, x1, x2⟩ := (H2.out.below (HB.out.step HK.out)) k hlt
      obtain ⟨b', off', hcb, hltb', aj, cj, y1, y2⟩ := (H4.out.below (HB.out.step HK.out)) k hlt
      have hql := HRR.out _ (List.getElem_mem hlt)
      generalize R[k] = row at *
      have X1 := hid x1
      have Y1 := hid y1
      have X2 := hid x2
      have Y2 := hid y2
      have e4 : ((row.length : Int) != (row.length : Int)) = false := by simp
      subst hca
      subst hcb
      obtain ⟨wo, rfl⟩ : ∃ wo : World, wo = wr := ⟨_, rfl⟩
      clear x2 y2
      go_upto_region 7 with fail
      go_quiet (fail)
      go_wp2
      clear x1 y1 k0 k1 j0 j1 e4
      go_loopg [7] row.length (fun gh s7 wr => ∃ q : Nat, q ≤ row.length ∧ gh = row.length - q ∧ s7 = .int .i64 q ∧ Hid (Below wo.heap.size wo wr))
      case atStart => exact ⟨0, Nat.zero_le _, rfl, rfl, hid (bdrewN (Below.refl _ _) _)⟩
      case round =>
        obtain ⟨q, hq, rfl, rfl, HQ⟩ := hrel
        obtain ⟨k0, k1, _, _⟩ := box2 (keepBox (HK.out.step HQ.out) HX.out)
        obtain ⟨j0, j1, _, _⟩ := box2 (keepBox (HK.out.step HQ.out) HR.out)
        have x1 := cell_later HQ.out X1.out
        have y1 := cell_later HQ.out Y1.out
        by_cases hlq : q < row.length
        · have n2 : (q : Int) < (row.length : Int) := by omega
          obtain ⟨bx, ox, hai, hlx, u1, u2⟩ := (X2.out.below HQ.out).at hlq
          obtain ⟨by', oy, haj, hly, v1, v2⟩ := (Y2.out.below HQ.out).at hlq
          generalize row.getD q (-1, 0) = p at *
          obtain ⟨x, y⟩ := p
          simp only at u1 u2 v1 v2
          have q97 := fun w => neq97 x y w
          have G97 := g97
          subst hai
          subst haj
          go_upto_region 12 with fail
          go_quiet (fail)
          go_wp2
          go_roundg (row.length - (q + 1))
          case measure => omega
          case rel => exact ⟨q + 1, by omega, rfl, by go_num, hid (bdrewN HQ.out _)⟩
        · go_wp2
          go_roundg (R.length - (k + 1))
          case measure => omega
          case rel => exact ⟨k + 1, by omega, rfl, by go_num, hid (HK.out.step HQ.out)⟩
    · go_wp2
      go_ret
      exact ⟨rfl, HB.out.step HK.out⟩
end Go.Proofs.Ytliajnflmddnoaa
