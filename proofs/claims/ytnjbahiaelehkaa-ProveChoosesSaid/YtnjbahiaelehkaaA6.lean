/- The contract of walk of package prove. -/
import Derived.Test.YtnjbahiaelehkaaA5
import Derived.Deep.LoopGhost
import Derived.Deep.DeepCutAuto
namespace Go.Proofs.Ytnjbahiaelehkaa
open Go.RowKit

theorem nbeq {i k : Nat} (h : i = k) : ((i : Int) == (k : Int)) = true := by subst h; simp
theorem nbne {i k : Nat} (h : ¬i = k) : ((i : Int) == (k : Int)) = false := by simp; omega
def TwoNew (B : Nat) (wr : World) (X Y : Int) (px py : Option Addr) (x y : Value) (wx : World) : Prop :=
  ∃ bx by' : Nat, x = .pointer (some ⟨bx, 0, none⟩) ∧ y = .pointer (some ⟨by', 0, none⟩) ∧ B ≤ bx ∧ B ≤ by' ∧ Below B wr wx ∧
    wx.cell? ⟨bx, 0, none⟩ = some (.int .i64 X) ∧ wx.cell? ⟨bx, 1, none⟩ = some (.pointer px) ∧ wx.cell? ⟨by', 0, none⟩ = some (.int .i64 Y) ∧ wx.cell? ⟨by', 1, none⟩ = some (.pointer py)

set_option maxRecDepth 100000 in
set_option maxHeartbeats 4000000 in
theorem walk_any (n : Nat) (hn : n ≤ 12) (M : Nat) (w : World) (l : List AM) (Mx : Int) (ok : ∀ a, a ∈ l → Ok n Mx a) (hM : 0 ≤ Mx) (hF : 100 * Mx < FF) (D : Nat → Nat → Int) (T : Nat → Nat → Tr) (hmat : Mat w M D T) (hst : Stage FF l (2 * n) 0 D T) :
    Calls Try.prog 95 #[.pointer (some ⟨M, 0, none⟩), .int .i64 n] w (WalkPost l n M w) := by
  have HS := hid hst; clear hst
  have HM := hid hmat; clear hmat
  have HOK := hid ok; clear ok
  have HMX := hid hM; clear hM
  have HF := hid hF; clear hF
  go_enter Try.func95, Try.ntmps95
  go_wp2
  go_loopg [13] (2 * n) (fun g x wr => ∃ k : Nat, k ≤ 2 * n ∧ g = 2 * n - k ∧ x = .int .i64 k ∧ But M w wr ∧ ∃ D T, Mat wr M D T ∧ Stage FF l (2 * n) k D T)
  case atStart => exact ⟨0, by omega, by omega, rfl, But.refl _ _, D, T, HM.out, HS.out⟩
  case round =>
    obtain ⟨k, hk, hgk, rfl, hb, D0, T0, hm0, hs0⟩ := hrel
    have HM0 := hid hm0; clear hm0
    have HS0 := hid hs0; clear hs0
    have HB := hid hb; clear hb
    have HGK := hid hgk; clear hgk
    by_cases hlt : k < 2 * n
    · obtain ⟨wo, rfl⟩ : ∃ wo : World, wo = wr := ⟨_, rfl⟩
      have hkd : decide ((k : Int) < 2 * (n : Int)) = true := decide_eq_true (by omega)
      go_wp2
      go_loopg [18] (2 * n) (fun g x wr => ∃ i : Nat, i ≤ 2 * n ∧ g = 2 * n - i ∧ x = .int .i64 i ∧ Inner n k i 0 wo M D0 T0 wr)
      case atStart => exact ⟨0, by omega, by omega, rfl, Inner.start (But.refl _ _) HM0.out⟩
      case round =>
        obtain ⟨i, hi, hgi, rfl, hin⟩ := hrel
        have HIN := hid hin; clear hin
        have HGI := hid hgi; clear hgi
        by_cases hlt2 : i < 2 * n
        · obtain ⟨wi, rfl⟩ : ∃ wo : World, wo = wr := ⟨_, rfl⟩
          have hid' : decide ((i : Int) < 2 * (n : Int)) = true := decide_eq_true (by omega)
          go_wp2
          go_loopg [23] (2 * n) (fun g x wr => ∃ j : Nat, j ≤ 2 * n ∧ g = 2 * n - j ∧ x = .int .i64 j ∧ Inner n k i j wo M D0 T0 wr)
          case atStart => exact ⟨0, by omega, by omega, rfl, HIN.out⟩
          case round =>
            obtain ⟨j, hj, hgj, rfl, hin⟩ := hrel
            have HIN2 := hid hin; clear hin
            have HGJ := hid hgj; clear hgj
            by_cases hlt3 : j < 2 * n
            · have hx := HIN2.out.mat.most i k (by omega) (by omega)
              have hy := HIN2.out.mat.most k j (by omega) (by omega)
              obtain ⟨px, hpx, hqx⟩ := HIN2.out.mat.why i k (by omega) (by omega)
              obtain ⟨py, hpy, hqy⟩ := HIN2.out.mat.why k j (by omega) (by omega)
              rw [partD_left] at hx hqx
              rw [partD_right] at hy hqy
              rw [partT_left] at hqx
              rw [partT_right] at hqy
              have HQX := hid hqx; clear hqx
              have HQY := hid hqy; clear hqy
              have hMw : M < wr.heap.size := HIN2.out.mat.big.lt
              have hi24 : (i : Int) < 24 := by omega
              have hj24 : (j : Int) < 24 := by omega
              have hk24 : (k : Int) < 24 := by omega
              generalize hX : D0 i k = X at hx
              generalize hY : D0 k j = Y at hy
              have HX := hid hX; clear hX
              have HY := hid hY; clear hY
              go_upto_region 10 with fail
              go_cut [8, 9] (fun x y wx => TwoNew wr.heap.size wr X Y px py x y wx)
              case first =>
                go_region
                all_goals (go_wp2_with fail; go_meet)
                · refine ⟨_, _, rfl, rfl, Nat.le_refl _, Nat.le_succ _, ((bnew _ _).alloc (by simp) _).drew, ?_, ?_, ?_, ?_⟩
                  all_goals simp
                · refine ⟨_, _, rfl, rfl, Nat.le_succ _, Nat.le_refl _, ((bnew _ _).alloc (by simp) _).drew, ?_, ?_, ?_, ?_⟩
                  all_goals simp
              case rest =>
                obtain ⟨bx, b2, rfl, rfl, hbx, hb2, hbw, c1, c2, c3, c4⟩ := hcut
                have HBW := hid hbw; clear hbw
                by_cases hik : i = k
                · have hkk := nbeq hik
                  have HIK := hid hik; clear hik
                  go_wp2
                  go_roundg (2 * n - (j + 1))
                  case measure => have := HGJ.out; omega
                  case rel => exact ⟨j + 1, by omega, by omega, by go_num, HIN2.out.skip HBW.out (.inl HIK.out) fun _ h => absurd HIK.out h⟩
                have hik' := nbne hik
                by_cases hjk : j = k
                · have hkk := nbeq hjk
                  have HJK := hid hjk; clear hjk
                  go_wp2
                  go_roundg (2 * n - (j + 1))
                  case measure => have := HGJ.out; omega
                  case rel => exact ⟨j + 1, by omega, by omega, by go_num, HIN2.out.skip HBW.out (.inr (.inl HJK.out)) fun e h => absurd (e.trans HJK.out) h⟩
                have hjk' := nbne hjk
                by_cases hXF : X = FF
                · have hkk : (X == 1152921504606846976) = true := by simpa using hXF
                  have hXD : D0 i k = FF := HX.out.trans hXF
                  have HXD := hid hXD; clear hXD
                  have HXF := hid hXF; clear hXF
                  go_wp2
                  go_roundg (2 * n - (j + 1))
                  case measure => have := HGJ.out; omega
                  case rel => exact ⟨j + 1, by omega, by omega, by go_num, HIN2.out.skip HBW.out (.inr (.inr (.inr (.inl HXD.out)))) fun _ _ h => absurd HXD.out h⟩
                have hXF' : (X == 1152921504606846976) = false := by simpa using hXF
                by_cases hYF : Y = FF
                · have hkk : (Y == 1152921504606846976) = true := by simpa using hYF
                  have hYD : D0 k j = FF := HY.out.trans hYF
                  have HYD := hid hYD; clear hYD
                  have HYF := hid hYF; clear hYF
                  go_wp2
                  go_roundg (2 * n - (j + 1))
                  case measure => have := HGJ.out; omega
                  case rel => exact ⟨j + 1, by omega, by omega, by go_num, HIN2.out.skip HBW.out (.inr (.inr (.inr (.inr (.inl HYD.out))))) fun e _ _ h => by subst e; exact absurd HYD.out h⟩
                have hYF' : (Y == 1152921504606846976) = false := by simpa using hYF
                -- the two bounds are finite
                have hXD : D0 i k ≠ FF := fun h => hXF (HX.out.symm.trans h)
                have hYD : D0 k j ≠ FF := fun h => hYF (HY.out.symm.trans h)
                have hbX := HS0.out.bound HOK.out HMX.out hn hk hlt2 hlt hik hXD
                have hbY := HS0.out.bound HOK.out HMX.out hn hk hlt hlt3 (Ne.symm hjk) hYD
                rw [HX.out] at hbX
                rw [HY.out] at hbY
                have hF := HF.out
                have hM0 := HMX.out
                have b1 : -1152921504606846976 < X := by unfold FF at hF; omega
                have b2' : X < 1152921504606846976 := by unfold FF at hF; omega
                have b3 : -1152921504606846976 < Y := by unfold FF at hF; omega
                have b4 : Y < 1152921504606846976 := by unfold FF at hF; omega
                have HXD := hid hXD; clear hXD
                have HYD := hid hYD; clear hYD
                obtain ⟨dx, epx, isx⟩ := HQX.out HXD.out
                obtain ⟨dy, epy, isy⟩ := HQY.out HYD.out
                subst epx epy
                clear hbX hbY hF hM0 hXF hYF
                have ISX := hid isx; clear isx
                have ISY := hid isy; clear isy
                by_cases hij : i = j
                · have hkk := nbeq hij
                  have HIJ := hid hij; clear hij
                  by_cases hneg : X + Y < 0
                  · go_wp2_with (go_at_call 115; refine (why115 bx b2 _ _ _ c2 c4).mono ?_; rintro e w' ⟨v, rfl, rfl, rfl⟩)
                    go_ret
                    have hb1 : But M wo wc := HIN2.out.but.trans (But.of_below HBW.out)
                    have hb2 : But M w (wc.alloc (.cells #[.int .i64 2, .int .i64 0, .pointer (some ⟨dx, 0, none⟩), .pointer (some ⟨dy, 0, none⟩)] 164)) := HB.out.trans (hb1.alloc _)
                    have hbe : Below wr.heap.size wr (wc.alloc (.cells #[.int .i64 2, .int .i64 0, .pointer (some ⟨dx, 0, none⟩), .pointer (some ⟨dy, 0, none⟩)] 164)) := HBW.out.alloc HBW.out.size _
                    refine ⟨hb2, .inl ⟨_, .sum (T0 i k) (T0 k i), rfl, ⟨dx, dy, ?_, ISX.out.below hbe, ?_⟩, HS0.out.ring hlt hlt2 hik HXD.out ?_ ?_, _, _, HIN2.out.mat.below hbe⟩⟩
                    · exact heap_alloc_new _ _
                    · have h := ISY.out.below hbe; rw [← HIJ.out] at h; exact h
                    · have h := HYD.out; rw [← HIJ.out] at h; exact h
                    · have h1 := HX.out; have h2 := HY.out; rw [← HIJ.out] at h2; rw [h1, h2]; exact hneg
                  · go_wp2
                    go_roundg (2 * n - (j + 1))
                    case measure => have := HGJ.out; omega
                    case rel =>
                      refine ⟨j + 1, by omega, by omega, by go_num, HIN2.out.skip HBW.out (.inr (.inr (.inl HIJ.out))) fun e _ _ _ => ?_⟩
                      have := HX.out; have := HY.out
                      subst e
                      omega
                have hij' := nbne hij
                have hcur := HIN2.out.mat.most i j (by omega) (by omega)
                rw [partD_cur] at hcur
                have hcur' := cell_later HBW.out hcur
                clear hcur
                generalize hC : D0 i j = C at hcur'
                have HC := hid hC; clear hC
                by_cases hle : C ≤ X + Y
                · go_upto_region 16 with fail
                  go_still_tail 12, (by kernel_rfl)
                  change wpList _ _ _ _ _ wc.drew
                  have hcd : wc.drew.cell? ⟨M, i * 48 + j * 2, none⟩ = some (.int .i64 C) := hcur'
                  go_wp2_with (go_at_call 100; refine (less_no M _ _ C _ _ hcd hle).mono ?_; rintro e w' ⟨rfl, rfl⟩)
                  go_roundg (2 * n - (j + 1))
                  case measure => have := HGJ.out; omega
                  case rel =>
                    refine ⟨j + 1, by omega, by omega, by go_num, HIN2.out.skip HBW.out.drew (.inr (.inr (.inr (.inr (.inr ?_))))) fun e => absurd e hij⟩
                    rw [HC.out, HX.out, HY.out]; exact hle
                · go_upto_region 16 with fail
                  go_still_tail 12, (by kernel_rfl)
                  change wpList _ _ _ _ _ wc.drew
                  have hcd : wc.drew.cell? ⟨M, i * 48 + j * 2, none⟩ = some (.int .i64 C) := hcur'
                  have c2d : wc.drew.cell? ⟨bx, 1, none⟩ = some (.pointer (some ⟨dx, 0, none⟩)) := c2
                  have c4d : wc.drew.cell? ⟨b2, 1, none⟩ = some (.pointer (some ⟨dy, 0, none⟩)) := c4
                  have hbig : Big wc.drew M := HIN2.out.mat.big.below HBW.out.drew
                  have hdx : dx < wr.heap.size := ISX.out.lt
                  have hdy : dy < wr.heap.size := ISY.out.lt
                  have hbd : Below wr.heap.size wr wc.drew := HBW.out.drew
                  have hwhy := why115 bx b2 _ _ _ c2d c4d
                  have hpost : ∀ v w1, NewSum wc.drew (some ⟨dx, 0, none⟩) (some ⟨dy, 0, none⟩) v w1 → (∃ p, v = .pointer p) ∧ (∃ x, w1.cell? ⟨M, i * 48 + j * 2, none⟩ = some x) ∧ (∃ x, w1.cell? ⟨M, i * 48 + j * 2 + 1, none⟩ = some x) ∧ w1.frozen? ⟨M, i * 48 + j * 2, none⟩ = false ∧ w1.frozen? ⟨M, i * 48 + j * 2 + 1, none⟩ = false := by
                    rintro v w1 ⟨rfl, rfl⟩
                    have hb3 := hbig.below (bnew wc.drew (.cells #[.int .i64 2, .int .i64 0, .pointer (some ⟨dx, 0, none⟩), .pointer (some ⟨dy, 0, none⟩)] 164))
                    exact ⟨⟨_, rfl⟩, hb3.cell _ (by omega), hb3.cell _ (by omega), hb3.frozen _, hb3.frozen _⟩
                  have HBIG := hid hbig; clear hbig
                  have HBD := hid hbd; clear hbd
                  have HPOST := hid hpost; clear hpost
                  have HWHY := hid hwhy; clear hwhy
                  go_wp2_with (go_at_call 100; refine (less_yes115 M _ _ C _ _ _ _ hcd (by omega) HWHY.out HPOST.out).mono ?_; rintro e w' ⟨rfl, v, w1, ⟨rfl, rfl⟩, rfl⟩)
                  go_roundg (2 * n - (j + 1))
                  case measure => have := HGJ.out; omega
                  case rel =>
                    refine ⟨j + 1, by omega, by omega, by go_num, ?_⟩
                    have hb4 : Below wr.heap.size wr (wc.drew.alloc (.cells #[.int .i64 2, .int .i64 0, .pointer (some ⟨dx, 0, none⟩), .pointer (some ⟨dy, 0, none⟩)] 164)) := HBD.out.alloc HBD.out.size _
                    have hs := HIN2.out.set hb4 (by have f1 := HXD.out; have f2 := HYD.out; rw [HX.out] at f1; rw [HY.out] at f2; unfold relC; rw [HC.out, HX.out, HY.out]; omega) (by omega) hlt3 hn wc.drew.heap.size ⟨dx, dy, heap_alloc_new _ _, ISX.out.below hb4, ISY.out.below hb4⟩
                    rw [HX.out, HY.out] at hs
                    exact hs
            · have hjn : j = 2 * n := by omega
              have HJN := hid hjn; clear hjn
              go_wp2
              go_roundg (2 * n - (i + 1))
              case measure => have := HGI.out; omega
              case rel => exact ⟨i + 1, by omega, by omega, by go_num, by have h := HIN2.out; rw [HJN.out] at h; exact h.next⟩
        · have hin' : i = 2 * n := by omega
          have HI2 := hid hin'; clear hin'
          go_wp2
          go_roundg (2 * n - (k + 1))
          case measure => have := HGK.out; omega
          case rel =>
            have h := HIN.out
            rw [HI2.out] at h
            obtain ⟨D', T', m', s'⟩ := h.stage HOK.out HMX.out hn HF.out HS0.out hlt
            exact ⟨k + 1, by omega, by omega, by go_num, HB.out.trans h.but, D', T', m', s'⟩
    · have hkn : k = 2 * n := by omega
      have HKN := hid hkn; clear hkn
      go_wp2
      go_ret
      refine ⟨HB.out, .inr ⟨rfl, D0, T0, HM0.out, ?_⟩⟩
      have h := HS0.out
      rw [HKN.out] at h
      exact h
end Go.Proofs.Ytnjbahiaelehkaa
