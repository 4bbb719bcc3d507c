/- The law's picked: the lines with some indices, but for one. The reference's indices and chosen. How the reference leaves out lines: the same as kept. The reference's Needed. -/
import Derived.Test.YtnjbahiaelehkaaC5
import Derived.Test.YtnjbahiaelehkaaC4
import Derived.Deep.QuietTactic
import Derived.BigQuiet
import Derived.WalkSmall
import Derived.Test.YtnjbahiaelehkaaC2
import Derived.Test.YtnjbahiaelehkaaD20
namespace Go.Proofs.Ytnjbahiaelehkaa
open Go.RowKit


/-- A list without one of its places. -/
def skip (ks : List Int) (but : Int) : List Int := if but < 0 then ks else ks.eraseIdx but.toNat
theorem skip_succ {ks : List Int} {but : Int} {j : Nat} (hj : j < ks.length) : skip (ks.take (j + 1)) but = if (j : Int) = but then skip (ks.take j) but else skip (ks.take j) but ++ [ks[j]] := by
  have ht : ks.take (j + 1) = ks.take j ++ [ks[j]] := List.take_succ_eq_append_getElem hj
  have hl : (ks.take j).length = j := by rw [List.length_take]; omega
  unfold skip
  rw [ht]
  by_cases h : but < 0
  · rw [if_pos h, if_pos h, if_neg (by omega)]
  · rw [if_neg h, if_neg h]
    obtain ⟨b, rfl⟩ : ∃ b : Nat, but = b := ⟨but.toNat, by omega⟩
    rw [Int.toNat_natCast]
    by_cases e : j = b
    · subst e
      rw [if_pos rfl, List.eraseIdx_append_of_length_le (by omega), List.eraseIdx_of_length_le (by omega : (ks.take j).length ≤ j), hl, Nat.sub_self]
      simp
    · rw [if_neg (by omega)]
      by_cases hlt : b < j
      · rw [List.eraseIdx_append_of_lt_length (by omega)]
      · rw [List.eraseIdx_append_of_length_le (by omega), List.eraseIdx_of_length_le (by omega : (ks.take j).length ≤ b), hl]
        congr 1
        exact List.eraseIdx_of_length_le (by simp; omega)
theorem skip_nil (but : Int) : skip [] but = [] := by unfold skip; split <;> simp
theorem skip_length (ks : List Int) (but : Int) : (skip ks but).length ≤ ks.length := by
  unfold skip
  split
  · exact Nat.le_refl _
  · exact (List.eraseIdx_sublist ks but.toNat).length_le
theorem skip_mem {ks : List Int} {but k : Int} (h : k ∈ skip ks but) : k ∈ ks := by
  unfold skip at h
  split at h
  · exact h
  · exact (List.eraseIdx_sublist ks but.toNat).mem h

/-- What picked returns. -/
def PickP (r : List AM) (w : World) (e : Ending) (w' : World) : Prop := Below w.heap.size w w' ∧ ∃ v, e = .returned (.tuple #[v, .bool true]) ∧ OwnL w' w.heap.size v r

set_option maxRecDepth 100000 in
set_option maxHeartbeats 4000000 in
theorem picked_any (l : List AM) (ks : List Int) (but : Int) (a : Option Addr) (ca : Nat) (b : Option Addr) (cb : Nat) (w : World) (hl : Rd w a l) (hk : RdI w b ks) (hkl : ks.length ≤ 1000) (hs : ks.Pairwise (· < ·)) (hin : ∀ k, k ∈ ks → 0 ≤ k ∧ k < l.length) :
    Calls Try.prog 27 #[.slice a l.length ca, .slice b ks.length cb, .int .i64 but] w (PickP (pick l (skip ks but)) w) := by
  have HL := hid hl; clear hl
  have HK := hid hk; clear hk
  have HS := hid hs; clear hs
  have HI := hid hin; clear hin
  obtain ⟨i4, hj4, hy0, hy1, hy2⟩ := info_parts info24
  go_enter Try.func27, Try.ntmps27
  go_wp2
  go_loopg [8, 9] ks.length (fun gh s8 s9 wr => ∃ j : Nat, j ≤ ks.length ∧ gh = ks.length - j ∧ s9 = .int .i64 j ∧ Hid (OwnL wr w.heap.size s8 (pick l (skip (ks.take j) but)) ∧ Below w.heap.size w wr))
  case atStart => exact ⟨0, Nat.zero_le _, rfl, rfl, hid ⟨by rw [List.take_zero, skip_nil]; exact ⟨rfl, .inl ⟨rfl, rfl⟩⟩, Below.refl _ _⟩⟩
  case round =>
    obtain ⟨j, hj, rfl, rfl, HJ⟩ := hrel
    by_cases hlt : j < ks.length
    · obtain ⟨bx, ox, hbx, hltx, c0⟩ := HK.out.below HJ.out.2 j hlt
      have hij := HI.out ks[j] (List.getElem_mem hlt)
      have hsk := skip_succ (but := but) hlt
      have hpr : ∀ j' : Nat, (h : j = j' + 1) → ks[j']'(by omega) < ks[j] := fun j' h => List.pairwise_iff_getElem.1 HS.out j' j (by omega) hlt (by omega)
      obtain ⟨kj, hkj⟩ : ∃ k : Nat, ks[j] = (k : Int) := ⟨ks[j].toNat, by omega⟩
      rw [hkj] at c0 hij hsk
      have hprev : j = 0 ∨ ∃ (j' : Nat) (kp : Int), j = j' + 1 ∧ kp < kj ∧ wr.cell? ⟨bx, ox + j', none⟩ = some (.int .i64 kp) := by
        cases j with
        | zero => exact .inl rfl
        | succ j' =>
          have h1 := hpr j' rfl
          rw [hkj] at h1
          obtain ⟨bx', ox', hbx', _, c1⟩ := HK.out.below HJ.out.2 j' (by omega)
          rw [hbx] at hbx'
          cases hbx'
          exact .inr ⟨j', _, rfl, h1, c1⟩
      have hkl' : kj < l.length := by omega
      obtain ⟨b2, off, ha, hlt2, h1, h2, h3, h4, h5⟩ := HL.out.below HJ.out.2 kj hkl'
      subst hbx
      subst ha
      have HSK := hid hsk
      have d1 : decide ((kj : Int) < 0) = false := by simp
      have d2 : decide ((l.length : Int) ≤ (kj : Int)) = false := by simp; omega
      have d2n : decide (l.length ≤ kj) = false := by simp; omega
      have n1 : (kj : Int) < (l.length : Int) := by omega
      have n2 : (j : Int) < (ks.length : Int) := by omega
      have hpl : (pick l (skip (ks.take j) but)).length ≤ 1000 := by
        unfold pick
        rw [List.length_map]
        have := skip_length (ks.take j) but
        rw [List.length_take] at this
        omega
      have hpk : pick l [(kj : Int)] = [l[kj]] := by simp [pick, hkl']
      have HPK := hid hpk
      obtain ⟨x, hx⟩ : ∃ x, x = l[kj] := ⟨_, rfl⟩
      rw [← hx] at h1 h2 h3 h4 h5
      have HX := hid hx
      clear hij hsk hpr hkj hpk hx
      obtain ⟨r, hr⟩ : ∃ r, r = pick l (skip (ks.take j) but) := ⟨_, rfl⟩
      rw [← hr] at hpl
      have HR := hid hr
      have HOW : Hid (OwnL wr w.heap.size u8 r) := hid (by rw [hr]; exact HJ.out.1)
      clear hr
      go_upto_region 5 with fail
      rcases hprev with hj0 | ⟨j', kp, hj', hlt3, c1⟩
      case' inl =>
        have d3n : decide (0 < j) = false := by simp; omega
        clear hj0
        go_quiet (fail)
      case' inr =>
        have p0 : 0 < j := by omega
        have p1 : decide (0 < j) = true := by simpa using p0
        have d4 : decide ((kj : Int) ≤ kp) = false := by simp; omega
        have e1 : (j : Int) - 1 = (j' : Int) := by omega
        have w1 : IntKind.i64.wrap ((j : Int) - 1) = (j' : Int) := by rw [e1]; exact IntWalk.i64_in _ (by omega)
        have n3 : (j' : Int) < (ks.length : Int) := by omega
        clear hj' e1
        go_quiet (fail)
        clear w1 d4 n3
      all_goals
        have HW : Hid (OwnL (wr.drewN nq) w.heap.size u8 r ∧ Below w.heap.size w (wr.drewN nq)) := hid ⟨HOW.out, below_drewN HJ.out.2 nq⟩
        replace c0 : (wr.drewN nq).cell? ⟨bx, ox + j, none⟩ = some (.int .i64 kj) := c0
        replace h1 : (wr.drewN nq).cell? ⟨b2, off + kj * 5, none⟩ = some (.int .i64 x.A) := h1
        replace h2 : (wr.drewN nq).cell? ⟨b2, off + kj * 5 + 1, none⟩ = some (.int .i64 x.P) := h2
        replace h3 : (wr.drewN nq).cell? ⟨b2, off + kj * 5 + 2, none⟩ = some (.int .i64 x.B) := h3
        replace h4 : (wr.drewN nq).cell? ⟨b2, off + kj * 5 + 3, none⟩ = some (.int .i64 x.Q) := h4
        replace h5 : (wr.drewN nq).cell? ⟨b2, off + kj * 5 + 4, none⟩ = some (.int .i64 x.M) := h5
        generalize wr.drewN nq = W1 at *
        by_cases e : (j : Int) = but
        · have eb : ((j : Int) != but) = false := by simpa using e
          have HE := hid e
          clear e
          go_wp2
          go_roundg (ks.length - (j + 1))
          case rel => exact ⟨j + 1, by omega, rfl, by go_num, hid ⟨by rw [HSK.out, if_pos HE.out, ← HR.out]; exact HW.out.1, HW.out.2⟩⟩
          case measure => omega
        · have eb : ((j : Int) != but) = true := by simpa using e
          have HE := hid e
          clear e
          have hown := HW.out.1
          have hszz := HW.out.2.size
          unfold OwnL at hown
          go_wp2_with (at_builtin; refine wpList_append_own _ rfl _ _ 22 rfl w.heap.size 24 i4 _ 5 40 Try.underlying22 hj4 hy0 hy1 hy2 rfl (by decide) _ _ _ rfl (hown.alloc _) ⟨W1.heap.size, 0, none⟩ 1 1 (c5 x) rfl rfl (cell_five_new _ _ _ _ _ _ _) (by intro u hu; simp [c5] at hu; rcases hu with rfl | rfl | rfl | rfl | rfl <;> rfl) (by unfold maxLen; omega) (by omega) (by simp; omega) ?_; intro v' w3 hown' hgrow hnil)
          go_roundg (ks.length - (j + 1))
          case rel =>
            refine ⟨j + 1, by omega, rfl, by go_num, hid ⟨?_, (HW.out.2.alloc hszz _).grown hgrow (by simp; omega) (own_ge hown)⟩⟩
            rw [HSK.out, if_neg HE.out, pick_append, HPK.out, ← HR.out, ← HX.out]
            unfold OwnL
            rw [List.length_append, List.flatMap_append]
            simpa using hown'
          case measure => omega
    · have hje : j = ks.length := by omega
      have HJE := hid hje
      clear hje
      go_wp2
      go_ret2
      refine ⟨HJ.out.2, _, rfl, ?_⟩
      have := HJ.out.1
      rw [HJE.out, List.take_length] at this
      exact this



/-- A new slice of numbers. -/
def RetN (l : List Int) (w : World) (e : Ending) (w' : World) : Prop := Below w.heap.size w w' ∧ ∃ v, e = .returned v ∧ OwnI w' w.heap.size v l
set_option maxRecDepth 100000 in
set_option maxHeartbeats 2000000 in
theorem indices_any (l : List AM) (a : Option Addr) (cap : Nat) (w : World) (hlen : l.length ≤ 64) :
    Calls Try.prog 84 #[.slice a l.length cap] w (RetN (upto l.length) w) := by
  obtain ⟨i0, hi, hz0, hz1, hz2⟩ := info_parts info3
  go_enter Try.func84, Try.ntmps84
  go_wp2
  go_loopg [3, 4] l.length (fun g s5 s14 wr => ∃ j : Nat, j ≤ l.length ∧ g = l.length - j ∧ s14 = .int .i64 j ∧ OwnI wr w.heap.size s5 (upto j) ∧ Below w.heap.size w wr)
  case atStart => exact ⟨0, Nat.zero_le _, rfl, rfl, ⟨rfl, .inl ⟨rfl, rfl⟩⟩, Below.refl _ _⟩
  case round =>
    obtain ⟨j, hj, rfl, rfl, hown, hb⟩ := hrel
    by_cases hlt : j < l.length
    · unfold OwnI at hown
      rw [upto_length] at hown
      have hsz := hb.size
      go_wp2_with (at_builtin; refine wpList_append_own _ rfl _ _ 46 rfl w.heap.size 3 i0 (.int .i64 0) 1 8 Try.underlying46 hi hz0 hz1 hz2 rfl (by decide) _ _ _ rfl (hown.alloc _) ⟨wr.heap.size, 0, none⟩ 1 1 [.int .i64 j] rfl rfl (cell_one_new _ _ _) (by intro u hu; simp at hu; subst hu; rfl) (by unfold maxLen; omega) (by omega) (by simp; omega) ?_; intro v' w3 hown' hgrow hnil)
      go_roundg (l.length - (j + 1))
      case rel =>
        refine ⟨j + 1, by omega, rfl, by go_num, ?_, (hb.alloc hsz _).grown hgrow (by simp; omega) (own_ge hown)⟩
        unfold OwnI
        rw [upto_length, upto_succ, List.map_append]
        exact hown'
      case measure => omega
    · obtain rfl : j = l.length := by omega
      go_wp2
      go_ret
      exact ⟨hb, _, rfl, hown⟩
set_option maxRecDepth 100000 in
set_option maxHeartbeats 4000000 in
theorem chosen_any (l : List AM) (ks : List Int) (but : Int) (a : Option Addr) (ca : Nat) (b : Option Addr) (cb : Nat) (w : World) (hl : Rd w a l) (hk : RdI w b ks) (hkl : ks.length ≤ 1000) (hin : ∀ k, k ∈ ks → 0 ≤ k ∧ k < l.length) :
    Calls Try.prog 85 #[.slice a l.length ca, .slice b ks.length cb, .int .i64 but] w (RetL (pick l (skip ks but)) w) := by
  have HL := hid hl; clear hl
  have HK := hid hk; clear hk
  have HI := hid hin; clear hin
  obtain ⟨i4, hj4, hy0, hy1, hy2⟩ := info_parts info24
  go_enter Try.func85, Try.ntmps85
  go_wp2
  go_loopg [7, 8] ks.length (fun gh s8 s9 wr => ∃ j : Nat, j ≤ ks.length ∧ gh = ks.length - j ∧ s9 = .int .i64 j ∧ Hid (OwnL wr w.heap.size s8 (pick l (skip (ks.take j) but)) ∧ Below w.heap.size w wr))
  case atStart => exact ⟨0, Nat.zero_le _, rfl, rfl, hid ⟨by rw [List.take_zero, skip_nil]; exact ⟨rfl, .inl ⟨rfl, rfl⟩⟩, Below.refl _ _⟩⟩
  case round =>
    obtain ⟨j, hj, rfl, rfl, HJ⟩ := hrel
    by_cases hlt : j < ks.length
    · obtain ⟨bx, ox, hbx, hltx, c0⟩ := HK.out.below HJ.out.2 j hlt
      have hij := HI.out ks[j] (List.getElem_mem hlt)
      have hsk := skip_succ (but := but) hlt
      obtain ⟨kj, hkj⟩ : ∃ k : Nat, ks[j] = (k : Int) := ⟨ks[j].toNat, by omega⟩
      rw [hkj] at c0 hij hsk
      have hkl' : kj < l.length := by omega
      obtain ⟨b2, off, ha, hlt2, h1, h2, h3, h4, h5⟩ := HL.out.below HJ.out.2 kj hkl'
      subst hbx
      subst ha
      have HSK := hid hsk
      have n1 : (kj : Int) < (l.length : Int) := by omega
      have n2 : (j : Int) < (ks.length : Int) := by omega
      have hpl : (pick l (skip (ks.take j) but)).length ≤ 1000 := by
        unfold pick
        rw [List.length_map]
        have := skip_length (ks.take j) but
        rw [List.length_take] at this
        omega
      have hpk : pick l [(kj : Int)] = [l[kj]] := by simp [pick, hkl']
      have HPK := hid hpk
      obtain ⟨x, hx⟩ : ∃ x, x = l[kj] := ⟨_, rfl⟩
      rw [← hx] at h1 h2 h3 h4 h5
      have HX := hid hx
      clear hij hsk hkj hpk hx
      obtain ⟨r, hr⟩ : ∃ r, r = pick l (skip (ks.take j) but) := ⟨_, rfl⟩
      rw [← hr] at hpl
      have HR := hid hr
      have HW : Hid (OwnL wr w.heap.size u7 r ∧ Below w.heap.size w wr) := hid ⟨by rw [hr]; exact HJ.out.1, HJ.out.2⟩
      clear hr
      by_cases e : (j : Int) = but
      · have eb : ((j : Int) != but) = false := by simpa using e
        have HE := hid e
        clear e
        go_wp2
        go_roundg (ks.length - (j + 1))
        case rel => exact ⟨j + 1, by omega, rfl, by go_num, hid ⟨by rw [HSK.out, if_pos HE.out, ← HR.out]; exact HW.out.1, HW.out.2⟩⟩
        case measure => omega
      · have eb : ((j : Int) != but) = true := by simpa using e
        have HE := hid e
        clear e
        have hown := HW.out.1
        have hszz := HW.out.2.size
        unfold OwnL at hown
        go_wp2_with (at_builtin; refine wpList_append_own _ rfl _ _ 22 rfl w.heap.size 24 i4 _ 5 40 Try.underlying22 hj4 hy0 hy1 hy2 rfl (by decide) _ _ _ rfl (hown.alloc _) ⟨wr.heap.size, 0, none⟩ 1 1 (c5 x) rfl rfl (cell_five_new _ _ _ _ _ _ _) (by intro u hu; simp [c5] at hu; rcases hu with rfl | rfl | rfl | rfl | rfl <;> rfl) (by unfold maxLen; omega) (by omega) (by simp; omega) ?_; intro v' w3 hown' hgrow hnil)
        go_roundg (ks.length - (j + 1))
        case rel =>
          refine ⟨j + 1, by omega, rfl, by go_num, hid ⟨?_, (HW.out.2.alloc hszz _).grown hgrow (by simp; omega) (own_ge hown)⟩⟩
          rw [HSK.out, if_neg HE.out, pick_append, HPK.out, ← HR.out, ← HX.out]
          unfold OwnL
          rw [List.length_append, List.flatMap_append]
          simpa using hown'
        case measure => omega
    · have hje : j = ks.length := by omega
      have HJE := hid hje
      clear hje
      go_wp2
      go_ret
      refine ⟨HJ.out.2, _, rfl, ?_⟩
      have := HJ.out.1
      rw [HJE.out, List.take_length] at this
      exact this


/-- The places ahead of m are decided, i of them stay. -/
structure Nd (can : AM → List AM → Bool) (l : List AM) (m i : Nat) (ks : List Int) : Prop where
  from_ : ks = keepFrom can l m
  lim : m ≤ l.length
  len : i ≤ ks.length
  lt : ∀ j (h : j < ks.length), j < i ↔ ks[j] < m
theorem Nd.sorted {can : AM → List AM → Bool} {l : List AM} {m i : Nat} {ks : List Int} (h : Nd can l m i ks) : ks.Pairwise (· < ·) := by
  rw [h.from_]
  exact keep_sorted can l m
theorem Nd.mem {can : AM → List AM → Bool} {l : List AM} {m i : Nat} {ks : List Int} (h : Nd can l m i ks) {k : Int} (hk : k ∈ ks) : 0 ≤ k ∧ k < l.length := by
  rw [h.from_] at hk
  exact (keepFrom_mem can l m k).1 hk
theorem Nd.zero (can : AM → List AM → Bool) (l : List AM) : Nd can l 0 0 (upto l.length) where
  from_ := rfl
  lim := Nat.zero_le _
  len := Nat.zero_le _
  lt j h := by
    have := mem_upto.1 (List.getElem_mem h)
    omega
theorem Nd.at {can : AM → List AM → Bool} {l : List AM} {m i : Nat} {ks : List Int} (h : Nd can l m i ks) (hi : i < ks.length) : ks[i] = (m : Int) ∧ m < l.length := by
  have h1 := (h.lt i hi)
  have h2 : (m : Int) ≤ ks[i] := by
    have : ¬ks[i] < (m : Int) := fun e => absurd (h1.2 e) (Nat.lt_irrefl i)
    omega
  have h3 := h.mem (List.getElem_mem hi)
  have hm : (m : Int) ∈ ks := by
    rw [h.from_]
    exact (keepFrom_mem can l m m).2 (Int.le_refl _) (by omega)
  obtain ⟨j0, hj0, e⟩ := List.mem_iff_getElem.1 hm
  have h4 : ¬j0 < i := fun e2 => by
    have := (h.lt j0 hj0).1 e2
    omega
  refine ⟨?_, by omega⟩
  by_cases e3 : j0 = i
  · subst e3
    exact e
  · have := List.pairwise_iff_getElem.1 h.sorted i j0 hi hj0 (by omega)
    omega
theorem Nd.end {can : AM → List AM → Bool} {l : List AM} {m i : Nat} {ks : List Int} (h : Nd can l m i ks) (hi : i = ks.length) : ks = keep can l := by
  have hm : m = l.length := by
    by_cases e : m < l.length
    · have hm : (m : Int) ∈ ks := by
        rw [h.from_]
        exact (keepFrom_mem can l m m).2 (Int.le_refl _) (by omega)
      obtain ⟨j0, hj0, e⟩ := List.mem_iff_getElem.1 hm
      have := (h.lt j0 hj0).1 (by omega)
      omega
    · have := h.lim
      omega
  rw [h.from_, hm]
  rfl
theorem Nd.step {can : AM → List AM → Bool} {l : List AM} {m i : Nat} {ks : List Int} (h : Nd can l m i ks) (hi : i < ks.length) :
    keepFrom can l (m + 1) = if can (l.getD m am0) (pick l (ks.eraseIdx i)) = true then ks.eraseIdx i else ks := by
  have he : ks.eraseIdx i = drop ks m := by rw [eraseIdx_drop h.sorted hi, (h.at hi).1]
  rw [keepFrom_succ, ← h.from_, he]
  rfl
theorem Nd.out {can : AM → List AM → Bool} {l : List AM} {m i : Nat} {ks : List Int} (h : Nd can l m i ks) (hi : i < ks.length) (hc : can (l.getD m am0) (pick l (ks.eraseIdx i)) = true) : Nd can l (m + 1) i (ks.eraseIdx i) where
  from_ := by rw [h.step hi, if_pos hc]
  lim := (h.at hi).2
  len := by rw [List.length_eraseIdx_of_lt hi]; omega
  lt j hj := by
    rw [List.length_eraseIdx_of_lt hi] at hj
    rw [List.getElem_eraseIdx]
    have hat := (h.at hi).1
    split
    · rename_i hji
      have := (h.lt j (by omega)).1 hji
      constructor
      · intro _
        omega
      · intro _
        exact hji
    · rename_i hji
      have := List.pairwise_iff_getElem.1 h.sorted i (j + 1) hi (by omega) (by omega)
      constructor
      · intro e
        exact absurd e hji
      · intro e
        omega
theorem Nd.stay {can : AM → List AM → Bool} {l : List AM} {m i : Nat} {ks : List Int} (h : Nd can l m i ks) (hi : i < ks.length) (hc : can (l.getD m am0) (pick l (ks.eraseIdx i)) = false) : Nd can l (m + 1) (i + 1) ks where
  from_ := by rw [h.step hi, if_neg (by rw [hc]; decide)]
  lim := (h.at hi).2
  len := hi
  lt j hj := by
    have hat := (h.at hi).1
    by_cases e : j < i
    · have := (h.lt j hj).1 e
      constructor <;> intro _ <;> omega
    · by_cases e2 : j = i
      · subst e2
        constructor <;> intro _ <;> omega
      · have := List.pairwise_iff_getElem.1 h.sorted i j hi hj (by omega)
        constructor <;> intro _ <;> omega
theorem pick_in {l : List AM} {ks : List Int} (h : ∀ k, k ∈ ks → 0 ≤ k ∧ k < l.length) : ∀ a, a ∈ pick l ks → a ∈ l := by
  intro a ha
  unfold pick at ha
  obtain ⟨k, hk, rfl⟩ := List.mem_map.1 ha
  have := h k hk
  have e : l.getD k.toNat am0 = l[k.toNat]'(by omega) := by
    have : k.toNat < l.length := by omega
    simp [List.getD, this]
  rw [e]
  exact List.getElem_mem _
theorem skip_erase (ks : List Int) (i : Nat) : skip ks i = ks.eraseIdx i := by
  unfold skip
  rw [if_neg (by omega), Int.toNat_natCast]


theorem step_append_ints {ops : Array Oper} {o : Oper} {a : Act} {K : Act → World → Prop} {Q : Exit → Act → World → Prop} {E : Prop} (w : World) (hgd : o.guard = none) (s x : Operand)
    (ho : o.op = .call { callee := .builtin .append, args := #[s, x], argTypes := #[46, 46] }) (base : Nat) (v : Value) (l0 l : List Int) (hsv : a.eval s = v) (hown : OwnI w base v l0) (A : Option Addr) (c : Nat) (ln : Nat) (hln : l.length = ln) (hx : a.eval x = .slice A ln c) (hl : RdI w A l) (hs : l0.length + l.length ≤ 1000000) (hb : base ≤ w.heap.size)
    (h : ∀ v' w', OwnI w' base v' (l0 ++ l) → w.grownBy w' v.ownBlock → (v'.ownBlock = v.ownBlock ∨ v'.ownBlock = some w.heap.size) → K (a.put o.dst v') w') :
    if Region.wanted o (yielded ops a.tmps) = true then Oper.wp Try.prog o a w K Q else E := by
  subst hln
  have hw : Region.wanted o (yielded ops a.tmps) = true := by simp [Region.wanted, hgd]
  rw [if_pos hw]
  obtain ⟨v', w', hrun, h2, h3, h4⟩ := run_append_ints w base o.type v l0 l hown A c hl hs hb
  unfold Oper.wp execOp
  simp only [ho, resolve, invoke, builtin, Sem.run_bind, Sem.run_pure, Result.andThen_ok, List.map_toArray, List.map_cons, List.map_nil, hsv, hx, hrun]
  exact h v' w' h2 h3 h4
theorem RdI.head {w : World} {a : Option Addr} {ks : List Int} (h : RdI w a ks) (i : Nat) : RdI w a (ks.take i) := by
  intro j hj
  have hj' : j < ks.length := by
    rw [List.length_take] at hj
    omega
  obtain ⟨b, off, ha, hlt, hc⟩ := h j hj'
  exact ⟨b, off, ha, hlt, by rw [List.getElem_take]; exact hc⟩
theorem RdI.tail {w : World} {b off : Nat} {ks : List Int} (h : RdI w (some ⟨b, off, none⟩) ks) (i : Nat) : RdI w (some ⟨b, off + i, none⟩) (ks.drop i) := by
  intro j hj
  have hj' : i + j < ks.length := by
    rw [List.length_drop] at hj
    omega
  obtain ⟨b', off', ha, hlt, hc⟩ := h (i + j) hj'
  simp only [Option.some.injEq, Addr.mk.injEq, and_true] at ha
  obtain ⟨rfl, rfl⟩ := ha
  exact ⟨b, off + i, rfl, hlt, by rw [List.getElem_drop, Nat.add_assoc]; exact hc⟩

theorem RdI.empty (w : World) (a : Option Addr) (ks : List Int) (h : ks.length = 0) : RdI w a ks := fun i hi => by omega
theorem OwnI.rdc {w : World} {base : Nat} {v : Value} {l : List Int} (h : OwnI w base v l) : ∃ a cap, v = .slice a l.length cap ∧ RdI w a l ∧ l.length ≤ cap := by
  obtain ⟨a, cap, hv, hr⟩ := h.rd
  refine ⟨a, cap, hv, hr, ?_⟩
  rcases h.2 with ⟨rfl, h0⟩ | ⟨g, cap', cur, rfl, _, _, h1, _⟩
  · omega
  · cases hv
    exact h1
/-- How far the reference has come. -/
def NdIn (can : AM → List AM → Bool) (l : List AM) (w : World) (m i : Nat) (v : Value) (wr : World) : Prop :=
  ∃ ks, Nd can l m i ks ∧ OwnI wr (w.heap.size + 1) v ks ∧ Below w.heap.size w wr ∧ wr.heap[w.heap.size]? = some (.cells #[.slice none 0 0, .bool false, .int .i64 0] 75 (0, 0))
/-- A struct of numbers, a truth and a fault. -/
def IntsP (l : List Int) (t : Bool) (e0 : Int) (w : World) (e : Ending) (w' : World) : Prop := Below w.heap.size w w' ∧ ∃ v, e = .returned (.agg #[v, .bool t, .int .i64 e0]) ∧ ∃ a cap, v = .slice a l.length cap ∧ RdI w' a l

theorem OwnI.off {w : World} {base b k : Nat} {v u : Value} {l : List Int} (h : OwnI w base v l) (hb : b < base) : OwnI (w.setCell ⟨b, k, Option.none⟩ u) base v l := by
  refine ⟨h.1, ?_⟩
  rcases h.2 with h | ⟨g, cap, cur, hv, hg, hh, rest⟩
  · exact .inl h
  · exact .inr ⟨g, cap, cur, hv, hg, (Below.heap_setCell _ _ _ _ (by show g ≠ b; omega)).trans hh, rest⟩
theorem IntsP.of_own {l : List Int} {t : Bool} {e0 : Int} {w w' : World} {base : Nat} {v : Value} (hb : Below w.heap.size w w') (h : OwnI w' base v l) : IntsP l t e0 w (.returned (.agg #[v, .bool t, .int .i64 e0])) w' := by
  obtain ⟨a, cap, rfl, hr⟩ := h.rd
  exact ⟨hb, _, rfl, a, cap, rfl, hr⟩
theorem IntsP.none (t : Bool) {e0 : Int} {w w' : World} (hb : Below w.heap.size w w') : IntsP [] t e0 w (.returned (.agg #[.slice none 0 0, .bool t, .int .i64 e0])) w' :=
  ⟨hb, _, rfl, _, _, rfl, fun i hi => absurd hi (Nat.not_lt_zero i)⟩

set_option maxRecDepth 100000 in
set_option maxHeartbeats 8000000 in
theorem rneeded_any (n : Int) (l : List AM) (a : Option Addr) (cap : Nat) (w : World) (hl : Rd w a l) (hlen : l.length ≤ 64) :
    Calls Try.prog 42 #[.int .i64 n, .slice a l.length cap] w (IntsP (neededL n l) false (checkN n l) w) := by
  have HL := hid hl; clear hl
  have HB := hid (bnew w (.cells #[.slice none 0 0, .bool false, .int .i64 0] 75))
  have HR : Hid ((w.alloc (.cells #[.slice none 0 0, .bool false, .int .i64 0] 75)).heap[w.heap.size]? = some (.cells #[.slice none 0 0, .bool false, .int .i64 0] 75 (0, 0))) := hid (heapn _ _ _ rfl)
  by_cases h0 : checkN n l = 0
  · obtain ⟨⟨hn1, hn2⟩, h40, hrs⟩ := checkN_in h0
    obtain ⟨N, rfl⟩ : ∃ N : Nat, n = (N : Int) := ⟨n.toNat, by omega⟩
    have hN : N ≤ 12 := by omega
    have hN1 : 1 ≤ N := by omega
    have HOK := hid (rights_ok hrs)
    have H0 := hid h0
    have hnl : neededL N l = keep canE l := by unfold neededL; rw [if_pos h0]
    rw [hnl, h0]
    clear h0 hrs hnl
    go_enter Try.func42, Try.ntmps42
    go_upto_region 5 with (first
      | (go_at_call 32; (with_reducible refine (rcheck_any N l a cap _ (HL.out.below HB.out) (by omega)).mono ?_); rw [H0.out]; rintro e w1 ⟨rfl, hb⟩; have HB := hid (HB.out.step hb); have HR := hid (keepBox hb HR.out); clear hb)
      | (go_at_call 84; (with_reducible refine (indices_any l a cap _ hlen).mono ?_); rintro e w1 ⟨hb, v, rfl, hown⟩; have hsz := HB.out.size; have hlt := lt_of_heap HR.out; have HO := hid (hown.mono (base' := w.heap.size + 1) (by omega)); have HB := hid (HB.out.step hb); have HR := hid (keepBox hb HR.out); clear hb hown hsz hlt))
    go_wp2
    go_loopg [6, 7] l.length (fun gh s6 s7 wr => ∃ m i : Nat, m ≤ l.length ∧ gh = l.length - m ∧ s7 = .int .i64 i ∧ NdIn canE l w m i s6 wr)
    case atStart => exact ⟨0, 0, Nat.zero_le _, rfl, rfl, _, Nd.zero canE l, HO.out, HB.out, HR.out⟩
    case round =>
      obtain ⟨m, i, hm, rfl, rfl, ks, nd, hown, hbw, hbox⟩ := hrel
      obtain ⟨a6, c6, rfl, hrd, hc6⟩ := hown.rdc
      by_cases hlt : i < ks.length
      · obtain ⟨hat, hml⟩ := nd.at hlt
        have hlen2 : ks.length ≤ 1000 := by
          have := keepFrom_length canE l m
          rw [← nd.from_] at this
          omega
        obtain ⟨bx, ox, hbx, hltx, c0⟩ := hrd i hlt
        rw [hat] at c0
        obtain ⟨b2, off, ha, hlt2, h1, h2, h3, h4, h5⟩ := HL.out.below hbw m hml
        subst hbx
        subst ha
        have ho := HOK.out l[m] (List.getElem_mem hml)
        obtain ⟨x, hx⟩ : ∃ x, x = l[m] := ⟨_, rfl⟩
        rw [← hx] at h1 h2 h3 h4 h5 ho
        have hgd : l.getD m am0 = x := by rw [hx]; simp [List.getD, hml]
        obtain ⟨xA, xP, xB, xQ, xM⟩ := x
        obtain ⟨r, hr⟩ : ∃ r, r = pick l (ks.eraseIdx i) := ⟨_, rfl⟩
        have hin : ∀ k, k ∈ ks → 0 ≤ k ∧ k < l.length := fun k hk => nd.mem hk
        have hrok : ∀ a, a ∈ r → Ok N 1000000 a := fun a ha => HOK.out a (pick_in (fun k hk => hin k ((List.eraseIdx_sublist ks i).mem hk)) a (by rw [← hr]; exact ha))
        have hrl : r.length ≤ 1000000 := by
          rw [hr]
          unfold pick
          rw [List.length_map, List.length_eraseIdx_of_lt hlt]
          omega
        have HRD := hid hrd
        have HND := hid nd
        have HOWN := hid hown
        have HBW := hid hbw
        have HBOX := hid hbox
        have HO := hid ho
        have HR := hid hr
        have HIN := hid hin
        have HROK := hid hrok
        have HGD := hid hgd
        have n1 : (m : Int) < (l.length : Int) := by omega
        have n2 : (i : Int) < (ks.length : Int) := by omega
        have n0 : (0 : Int) ≤ m := by omega
        have n3 : (0 : Int) ≤ i := by omega
        clear hrd nd hown hbw hbox hat ho hx hr hin hrok hgd
        simp only at h1 h2 h3 h4 h5
        go_upto_region 8 with fail
        have hb := bdrew wr
        go_region_held3 (fun w' => w'.cell? ⟨bx, ox + i, none⟩ = some (.int .i64 m) ∧ w'.cell? ⟨b2, off + m * 5, none⟩ = some (.int .i64 xA) ∧ w'.cell? ⟨b2, off + m * 5 + 1, none⟩ = some (.int .i64 xP) ∧ w'.cell? ⟨b2, off + m * 5 + 2, none⟩ = some (.int .i64 xB) ∧ w'.cell? ⟨b2, off + m * 5 + 3, none⟩ = some (.int .i64 xQ) ∧ w'.cell? ⟨b2, off + m * 5 + 4, none⟩ = some (.int .i64 xM)) (first | exact ⟨c0, h1, h2, h3, h4, h5⟩ | exact ⟨cell_later hb c0, cell_later hb h1, cell_later hb h2, cell_later hb h3, cell_later hb h4, cell_later hb h5⟩)
          ((first
            | (go_at_call 85; (with_reducible refine (chosen_any l ks i _ cap _ c6 _ (HL.out.below (HBW.out.step hb)) (HRD.out.below hb) hlen2 HIN.out).mono ?_); rw [skip_erase, ← HR.out]; rintro e w9 ⟨hbb, v, rfl, hown⟩; obtain ⟨am, cm, rfl, hrd⟩ := hown.rd; have HRR := hid hrd; have hb := hb.step hbb; clear hbb hown hrd)
            | (go_at_call 77; (with_reducible refine (rent_any N hN1 hN r xA xP xB xQ xM am cm _ HROK.out HO.out HRR.out hrl).mono ?_); rintro e w9 ⟨rfl, hbb⟩; have hb := hb.step hbb; clear hbb)))
        have hcan : canE (l.getD m am0) (pick l (ks.eraseIdx i)) = entB r ⟨xA, xP, xB, xQ, xM⟩ := by rw [HGD.out, ← HR.out]; rfl
        have HCAN := hid hcan
        have HBN := hid hb
        clear hcan hb c0 h1 h2 h3 h4 h5
        cases hs : entB r ⟨xA, xP, xB, xQ, xM⟩ with
        | true =>
          have HSP := hid hs
          clear hs
          have hti : (ks.take i).length = i := by rw [List.length_take]; omega
          have htd : (ks.drop (i + 1)).length = ks.length - (i + 1) := List.length_drop ..
          have i1 : (i : Int) ≤ c6 := by omega
          have i2 : (i : Int) + 1 ≤ ks.length := by omega
          have i3 : i + 1 ≤ ks.length := hlt
          have HRD9 := hid (HRD.out.below HBN.out)
          have wi : IntKind.i64.wrap ((i : Int) + 1) = ((i + 1 : Nat) : Int) := by rw [wrapk ⟨by omega, by omega⟩]; omega
          have i4 : ((i + 1 : Nat) : Int) ≤ (ks.length : Int) := by omega
          have i5 : (0 : Int) ≤ (i : Int) + 1 := by omega
          have i7 : (i : Int) ≤ (i : Int) + 1 := by omega
          go_upto_region 10 with fail
          by_cases hcc : c6 = i + 1
          · subst hcc
            go_region_law (first
              | (refine step_append_ints _ rfl (.tmp 38) (.tmp 41) rfl w9.heap.size (.slice (some ⟨w9.heap.size, 0, none⟩) 0 0) [] (ks.take i) (by rfl) (.none (by omega) (by simp only [heap_drew, heap_alloc_if] <;> simp <;> omega)) _ _ i hti (by rfl) (RdI.head (HRD9.out.below (by repeat (first | exact Below.refl _ _ | refine Below.drew ?_ | refine bmore ?_ _))) i) (by simp; omega) (by simp; try omega) ?_
                 intro v1 w1 hown1 hg1 hat1
                 have HA1 : Hid (OwnI w1 w9.heap.size v1 (ks.take i) ∧ Below w9.heap.size w9 w1) := hid ⟨by simpa using hown1, Below.grown (by repeat (first | exact Below.refl _ _ | refine Below.drew ?_ | refine bmore ?_ _)) hg1 (by simp; try omega) (by intro q hq; simp [Value.ownBlock] at hq; omega)⟩
                 clear hown1 hg1 hat1)
              | (refine step_append_ints _ rfl (.tmp 42) (.tmp 46) rfl w9.heap.size v1 (ks.take i) (ks.drop (i + 1)) (by rfl) (by first | exact HA1.out.1 | exact World.ownsRow.alloc HA1.out.1 _) _ _ 0 (by rw [htd]; omega) (by rfl) (RdI.empty _ _ _ (by rw [htd]; omega)) (by rw [hti, htd]; omega) (by have := HA1.out.2.size; first | exact this | (simp; omega)) ?_
                 intro v2 w2 hown2 hg2 hat2
                 have HA2 : Hid (OwnI w2 w9.heap.size v2 (ks.take i ++ ks.drop (i + 1)) ∧ Below w9.heap.size w9 w2) := hid ⟨hown2, Below.grown (by first | exact HA1.out.2 | exact HA1.out.2.drew) hg2 (by have := HA1.out.2.size; first | exact this | (simp; omega)) (own_ge HA1.out.1)⟩
                 clear hown2 hg2 hat2))
            go_wp2
            go_roundg (l.length - (m + 1))
            case rel =>
              have hsz := Nat.le_trans HBW.out.size HBN.out.size
              have hlt8 := lt_of_heap HBOX.out
              have hsz9 := HBN.out.size
              refine ⟨m + 1, i, by omega, rfl, by go_num, ks.eraseIdx i, HND.out.out hlt (HCAN.out.trans HSP.out), ?_, (HBW.out.step HBN.out).step HA2.out.2, keepBox HA2.out.2 (keepBox HBN.out HBOX.out)⟩
              rw [List.eraseIdx_eq_take_drop_succ]
              exact HA2.out.1.mono (by omega)
            case measure => omega
          · go_region_law (first
              | (refine step_append_ints _ rfl (.tmp 38) (.tmp 41) rfl w9.heap.size (.slice (some ⟨w9.heap.size, 0, none⟩) 0 0) [] (ks.take i) (by rfl) (.none (by omega) (by simp only [heap_drew, heap_alloc_if] <;> simp <;> omega)) _ _ i hti (by rfl) (RdI.head (HRD9.out.below (by repeat (first | exact Below.refl _ _ | refine Below.drew ?_ | refine bmore ?_ _))) i) (by simp; omega) (by simp; try omega) ?_
                 intro v1 w1 hown1 hg1 hat1
                 have HA1 : Hid (OwnI w1 w9.heap.size v1 (ks.take i) ∧ Below w9.heap.size w9 w1) := hid ⟨by simpa using hown1, Below.grown (by repeat (first | exact Below.refl _ _ | refine Below.drew ?_ | refine bmore ?_ _)) hg1 (by simp; try omega) (by intro q hq; simp [Value.ownBlock] at hq; omega)⟩
                 clear hown1 hg1 hat1)
              | (refine step_append_ints _ rfl (.tmp 42) (.tmp 46) rfl w9.heap.size v1 (ks.take i) (ks.drop (i + 1)) (by rfl) (by first | exact HA1.out.1 | exact World.ownsRow.alloc HA1.out.1 _) _ _ (ks.length - (i + 1)) htd (by rfl) (RdI.tail (HRD9.out.below (by first | exact HA1.out.2 | exact HA1.out.2.drew)) (i + 1)) (by rw [hti, htd]; omega) (by have := HA1.out.2.size; first | exact this | (simp; omega)) ?_
                 intro v2 w2 hown2 hg2 hat2
                 have HA2 : Hid (OwnI w2 w9.heap.size v2 (ks.take i ++ ks.drop (i + 1)) ∧ Below w9.heap.size w9 w2) := hid ⟨hown2, Below.grown (by first | exact HA1.out.2 | exact HA1.out.2.drew) hg2 (by have := HA1.out.2.size; first | exact this | (simp; omega)) (own_ge HA1.out.1)⟩
                 clear hown2 hg2 hat2))
            go_wp2
            go_roundg (l.length - (m + 1))
            case rel =>
              have hsz := Nat.le_trans HBW.out.size HBN.out.size
              have hlt8 := lt_of_heap HBOX.out
              have hsz9 := HBN.out.size
              refine ⟨m + 1, i, by omega, rfl, by go_num, ks.eraseIdx i, HND.out.out hlt (HCAN.out.trans HSP.out), ?_, (HBW.out.step HBN.out).step HA2.out.2, keepBox HA2.out.2 (keepBox HBN.out HBOX.out)⟩
              rw [List.eraseIdx_eq_take_drop_succ]
              exact HA2.out.1.mono (by omega)
            case measure => omega
        | false =>
          have HSP := hid hs
          clear hs
          go_wp2
          go_roundg (l.length - (m + 1))
          case rel =>
            exact ⟨m + 1, i + 1, by omega, rfl, by go_num, ks, HND.out.stay hlt (HCAN.out.trans HSP.out), HOWN.out.later HBN.out, HBW.out.step HBN.out, keepBox HBN.out HBOX.out⟩
          case measure => omega
      · have hie : i = ks.length := by
          have := nd.len
          omega
        have HK := hid (nd.end hie)
        have HBOX := hid hbox
        have HBW := hid hbw
        have HOWN := hid hown
        obtain ⟨r0, r1, r2, z0, z1, z2⟩ := box3 hbox
        clear nd hown hbw hbox hrd hc6
        go_wp2
        refine bodyPost_ret (v := .agg #[.slice a6 ks.length c6, .bool false, .int .i64 0]) (by simp [results, Try.results42, go_sem, r0, r1, r2]) rfl ?_
        rw [← HK.out]
        have hb9 := ((HBW.out.setCell (p := ⟨w.heap.size, 0, none⟩) (Nat.le_refl _) (.slice a6 ks.length c6)).setCell (p := ⟨w.heap.size, 1, none⟩) (Nat.le_refl _) (.bool false)).setCell (p := ⟨w.heap.size, 2, none⟩) (Nat.le_refl _) (.int .i64 0)
        have ho9 := ((HOWN.out.off (b := w.heap.size) (k := 0) (u := .slice a6 ks.length c6) (Nat.lt_succ_self _)).off (b := w.heap.size) (k := 1) (u := .bool false) (Nat.lt_succ_self _)).off (b := w.heap.size) (k := 2) (u := .int .i64 0) (Nat.lt_succ_self _)
        exact IntsP.of_own hb9 ho9
  · have hnl : neededL n l = [] := by unfold neededL; rw [if_neg h0]
    rw [hnl]
    obtain ⟨c, hc⟩ : ∃ c, c = checkN n l := ⟨_, rfl⟩
    rw [← hc]
    have hne : (c != 0) = true := by rw [hc]; simpa using h0
    have HC := hid hc
    clear hc h0 hnl
    go_enter Try.func42, Try.ntmps42
    go_wp2_with (go_at_call 32; (with_reducible refine (rcheck_any n l a cap _ (HL.out.below HB.out) (by omega)).mono ?_); rw [← HC.out]; rintro e w1 ⟨rfl, hb⟩; have HB := hid (HB.out.step hb); have HR := hid (keepBox hb HR.out); obtain ⟨r0, r1, r2, z0, z1, z2⟩ := box3 HR.out; clear hb)
    refine bodyPost_ret (v := .agg #[.slice none 0 0, .bool false, .int .i64 c]) (by simp [results, Try.results42, go_sem, r0, r1, r2]) rfl ?_
    exact IntsP.none _ (((HB.out.setCell (Nat.le_refl _) _).setCell (Nat.le_refl _) _).setCell (Nat.le_refl _) _)
end Go.Proofs.Ytnjbahiaelehkaa
