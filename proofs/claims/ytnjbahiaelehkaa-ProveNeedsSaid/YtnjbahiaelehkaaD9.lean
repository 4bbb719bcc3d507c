/- The law's picked: the lines with some indices, but for one. -/
import Derived.Test.YtnjbahiaelehkaaC5
import Derived.Test.YtnjbahiaelehkaaC4
import Derived.Deep.QuietTactic
import Derived.BigQuiet
import Derived.WalkSmall
namespace Go.Proofs.Ytnjbahiaelehkaa
open Go.RowKit

/-- A list without one of its places. -/
def skip (ks : List Int) (but : Int) : List Int := if but < 0 then ks else ks.eraseIdx but.toNat
theorem skip_succ {ks : List Int} {but : Int} {j : Nat} (hj : j < ks.length) : skip (ks.take (j + 1)) but = if (j : Int) = but then skip (ks.take j) but else skip (ks.take j) but ++ [ks[j]] := by
  have ht : ks.take (j + 1) = ks.take j ++ [ks[j]] := List.take_succ_eq_append_getElem hj
  have hl : (ks.take j).length = j := by rw [List.length_take]; omega
  unfold skip
  rw [ht]
  by_cases h : but < 0
  · rw [if_pos h, if_pos h, if_neg (by omega)]
  · rw [if_neg h, if_neg h]
    obtain ⟨b, rfl⟩ : ∃ b : Nat, but = b := ⟨but.toNat, by omega⟩
    rw [Int.toNat_natCast]
    by_cases e : j = b
    · subst e
      rw [if_pos rfl, List.eraseIdx_append_of_length_le (by omega), List.eraseIdx_of_length_le (by omega : (ks.take j).length ≤ j), hl, Nat.sub_self]
      simp
    · rw [if_neg (by omega)]
      by_cases hlt : b < j
      · rw [List.eraseIdx_append_of_lt_length (by omega)]
      · rw [List.eraseIdx_append_of_length_le (by omega), List.eraseIdx_of_length_le (by omega : (ks.take j).length ≤ b), hl]
        congr 1
        exact List.eraseIdx_of_length_le (by simp; omega)
theorem skip_nil (but : Int) : skip [] but = [] := by unfold skip; split <;> simp
theorem skip_length (ks : List Int) (but : Int) : (skip ks but).length ≤ ks.length := by
  unfold skip
  split
  · exact Nat.le_refl _
  · exact (List.eraseIdx_sublist ks but.toNat).length_le
theorem skip_mem {ks : List Int} {but k : Int} (h : k ∈ skip ks but) : k ∈ ks := by
  unfold skip at h
  split at h
  · exact h
  · exact (List.eraseIdx_sublist ks but.toNat).mem h

/-- What picked returns. -/
def PickP (r : List AM) (w : World) (e : Ending) (w' : World) : Prop := Below w.heap.size w w' ∧ ∃ v, e = .returned (.tuple #[v, .bool true]) ∧ OwnL w' w.heap.size v r

set_option maxRecDepth 100000 in
set_option maxHeartbeats 4000000 in
theorem picked_any (l : List AM) (ks : List Int) (but : Int) (a : Option Addr) (ca : Nat) (b : Option Addr) (cb : Nat) (w : World) (hl : Rd w a l) (hk : RdI w b ks) (hkl : ks.length ≤ 1000) (hs : ks.Pairwise (· < ·)) (hin : ∀ k, k ∈ ks → 0 ≤ k ∧ k < l.length) :
    Calls Try.prog 27 #[.slice a l.length ca, .slice b ks.length cb, .int .i64 but] w (PickP (pick l (skip ks but)) w) := by
  have HL := hid hl; clear hl
  have HK := hid hk; clear hk
  have HS := hid hs; clear hs
  have HI := hid hin; clear hin
  obtain ⟨i4, hj4, hy0, hy1, hy2⟩ := info_parts info24
  go_enter Try.func27, Try.ntmps27
  go_wp2
  go_loopg [8, 9] ks.length (fun gh s8 s9 wr => ∃ j : Nat, j ≤ ks.length ∧ gh = ks.length - j ∧ s9 = .int .i64 j ∧ Hid (OwnL wr w.heap.size s8 (pick l (skip (ks.take j) but)) ∧ Below w.heap.size w wr))
  case atStart => exact ⟨0, Nat.zero_le _, rfl, rfl, hid ⟨by rw [List.take_zero, skip_nil]; exact ⟨rfl, .inl ⟨rfl, rfl⟩⟩, Below.refl _ _⟩⟩
  case round =>
    obtain ⟨j, hj, rfl, rfl, HJ⟩ := hrel
    by_cases hlt : j < ks.length
    · obtain ⟨bx, ox, hbx, hltx, c0⟩ := HK.out.below HJ.out.2 j hlt
      have hij := HI.out ks[j] (List.getElem_mem hlt)
      have hsk := skip_succ (but := but) hlt
      have hpr : ∀ j' : Nat, (h : j = j' + 1) → ks[j']'(by omega) < ks[j] := fun j' h => List.pairwise_iff_getElem.1 HS.out j' j (by omega) hlt (by omega)
      obtain ⟨kj, hkj⟩ : ∃ k : Nat, ks[j] = (k : Int) := ⟨ks[j].toNat, by omega⟩
      rw [hkj] at c0 hij hsk
      have hprev : j = 0 ∨ ∃ (j' : Nat) (kp : Int), j = j' + 1 ∧ kp < kj ∧ wr.cell? ⟨bx, ox + j', none⟩ = some (.int .i64 kp) := by
        cases j with
        | zero => exact .inl rfl
        | succ j' =>
          have h1 := hpr j' rfl
          rw [hkj] at h1
          obtain ⟨bx', ox', hbx', _, c1⟩ := HK.out.below HJ.out.2 j' (by omega)
          rw [hbx] at hbx'
          cases hbx'
          exact .inr ⟨j', _, rfl, h1, c1⟩
      have hkl' : kj < l.length := by omega
      obtain ⟨b2, off, ha, hlt2, h1, h2, h3, h4, h5⟩ := HL.out.below HJ.out.2 kj hkl'
      subst hbx
      subst ha
      have HSK := hid hsk
      have d1 : decide ((kj : Int) < 0) = false := by simp
      have d2 : decide ((l.length : Int) ≤ (kj : Int)) = false := by simp; omega
      have d2n : decide (l.length ≤ kj) = false := by simp; omega
      have n1 : (kj : Int) < (l.length : Int) := by omega
      have n2 : (j : Int) < (ks.length : Int) := by omega
      have hpl : (pick l (skip (ks.take j) but)).length ≤ 1000 := by
        unfold pick
        rw [List.length_map]
        have := skip_length (ks.take j) but
        rw [List.length_take] at this
        omega
      have hpk : pick l [(kj : Int)] = [l[kj]] := by simp [pick, hkl']
      have HPK := hid hpk
      obtain ⟨x, hx⟩ : ∃ x, x = l[kj] := ⟨_, rfl⟩
      rw [← hx] at h1 h2 h3 h4 h5
      have HX := hid hx
      clear hij hsk hpr hkj hpk hx
      obtain ⟨r, hr⟩ : ∃ r, r = pick l (skip (ks.take j) but) := ⟨_, rfl⟩
      rw [← hr] at hpl
      have HR := hid hr
      have HOW : Hid (OwnL wr w.heap.size u8 r) := hid (by rw [hr]; exact HJ.out.1)
      clear hr
      go_upto_region 5 with fail
      rcases hprev with hj0 | ⟨j', kp, hj', hlt3, c1⟩
      case' inl =>
        have d3n : decide (0 < j) = false := by simp; omega
        clear hj0
        go_quiet (fail)
      case' inr =>
        have p0 : 0 < j := by omega
        have p1 : decide (0 < j) = true := by simpa using p0
        have d4 : decide ((kj : Int) ≤ kp) = false := by simp; omega
        have e1 : (j : Int) - 1 = (j' : Int) := by omega
        have w1 : IntKind.i64.wrap ((j : Int) - 1) = (j' : Int) := by rw [e1]; exact IntWalk.i64_in _ (by omega)
        have n3 : (j' : Int) < (ks.length : Int) := by omega
        clear hj' e1
        go_quiet (fail)
        clear w1 d4 n3
      all_goals
        have HW : Hid (OwnL (wr.drewN nq) w.heap.size u8 r ∧ Below w.heap.size w (wr.drewN nq)) := hid ⟨HOW.out, below_drewN HJ.out.2 nq⟩
        replace c0 : (wr.drewN nq).cell? ⟨bx, ox + j, none⟩ = some (.int .i64 kj) := c0
        replace h1 : (wr.drewN nq).cell? ⟨b2, off + kj * 5, none⟩ = some (.int .i64 x.A) := h1
        replace h2 : (wr.drewN nq).cell? ⟨b2, off + kj * 5 + 1, none⟩ = some (.int .i64 x.P) := h2
        replace h3 : (wr.drewN nq).cell? ⟨b2, off + kj * 5 + 2, none⟩ = some (.int .i64 x.B) := h3
        replace h4 : (wr.drewN nq).cell? ⟨b2, off + kj * 5 + 3, none⟩ = some (.int .i64 x.Q) := h4
        replace h5 : (wr.drewN nq).cell? ⟨b2, off + kj * 5 + 4, none⟩ = some (.int .i64 x.M) := h5
        generalize wr.drewN nq = W1 at *
        by_cases e : (j : Int) = but
        · have eb : ((j : Int) != but) = false := by simpa using e
          have HE := hid e
          clear e
          go_wp2
          go_roundg (ks.length - (j + 1))
          case rel => exact ⟨j + 1, by omega, rfl, by go_num, hid ⟨by rw [HSK.out, if_pos HE.out, ← HR.out]; exact HW.out.1, HW.out.2⟩⟩
          case measure => omega
        · have eb : ((j : Int) != but) = true := by simpa using e
          have HE := hid e
          clear e
          have hown := HW.out.1
          have hszz := HW.out.2.size
          unfold OwnL at hown
          go_wp2_with (at_builtin; refine wpList_append_own _ rfl _ _ 22 rfl w.heap.size 24 i4 _ 5 40 Try.underlying22 hj4 hy0 hy1 hy2 rfl (by decide) _ _ _ rfl (hown.alloc _) ⟨W1.heap.size, 0, none⟩ 1 1 (c5 x) rfl rfl (cell_five_new _ _ _ _ _ _ _) (by intro u hu; simp [c5] at hu; rcases hu with rfl | rfl | rfl | rfl | rfl <;> rfl) (by unfold maxLen; omega) (by omega) (by simp; omega) ?_; intro v' w3 hown' hgrow hnil)
          go_roundg (ks.length - (j + 1))
          case rel =>
            refine ⟨j + 1, by omega, rfl, by go_num, hid ⟨?_, (HW.out.2.alloc hszz _).grown hgrow (by simp; omega) (own_ge hown)⟩⟩
            rw [HSK.out, if_neg HE.out, pick_append, HPK.out, ← HR.out, ← HX.out]
            unfold OwnL
            rw [List.length_append, List.flatMap_append]
            simpa using hown'
          case measure => omega
    · have hje : j = ks.length := by omega
      have HJE := hid hje
      clear hje
      go_wp2
      go_ret2
      refine ⟨HJ.out.2, _, rfl, ?_⟩
      have := HJ.out.1
      rw [HJE.out, List.take_length] at this
      exact this
end Go.Proofs.Ytnjbahiaelehkaa
