/- Contracts of the reference's Order and Clique. -/
import Derived.Test.YtliajnflmddnoaaQ3
namespace Go.Proofs.Ytliajnflmddnoaa
open Go.RowKit

/-- Order, under way: numbers above n are done, of n the rows below i. -/
def ordU (m : List (List Int)) (n : Nat) : List Nat := ((List.range' n (colsN m + 1 - n)).reverse).flatMap fun n => (List.range m.length).filter fun i => manyN (m.getD i []) == n
def ordI (m : List (List Int)) (n i : Nat) : List Nat := ordU m (n + 1) ++ (List.range i).filter fun i => manyN (m.getD i []) == n
theorem ordU_start (m : List (List Int)) : ordU m (colsN m + 1) = [] := by unfold ordU; simp
theorem ordI_zero (m : List (List Int)) (n : Nat) : ordI m n 0 = ordU m (n + 1) := by unfold ordI; simp
theorem ordI_end {m : List (List Int)} {n : Nat} (h : n ≤ colsN m) : ordI m n m.length = ordU m n := by
  unfold ordI ordU
  rw [show colsN m + 1 - n = (colsN m + 1 - (n + 1)) + 1 from by omega, List.range'_succ, List.reverse_cons, List.flatMap_append]
  simp
theorem ordU_end (m : List (List Int)) : ordU m 0 = orderL m := by
  unfold ordU orderL
  rw [Nat.sub_zero, ← List.range_eq_range' (n := colsN m + 1)]
theorem ordI_succ (m : List (List Int)) (n i : Nat) : ordI m n (i + 1) = if (manyN (m.getD i []) == n) = true then ordI m n i ++ [i] else ordI m n i := by
  unfold ordI
  rw [List.range_succ, List.filter_append]
  by_cases h : (manyN (m.getD i []) == n) = true
  · rw [if_pos h, show [i].filter (fun i => manyN (m.getD i []) == n) = [i] from List.filter_cons_of_pos h, List.append_assoc]
  · rw [if_neg h, show [i].filter (fun i => manyN (m.getD i []) == n) = [] from List.filter_cons_of_neg h, List.append_nil]
theorem flat_le {α : Type} (f : Nat → List α) (k : Nat) : ∀ (l : List Nat), (∀ n, n ∈ l → (f n).length ≤ k) → (l.flatMap f).length ≤ l.length * k
  | [], _ => by simp
  | a :: l, h => by
    have h1 := h a (List.mem_cons_self ..)
    have h2 := flat_le f k l fun n hn => h n (List.mem_cons_of_mem _ hn)
    rw [List.flatMap_cons, List.length_append, List.length_cons, Nat.add_mul]
    omega
theorem ordI_le {m : List (List Int)} (h : RightM m) {n i : Nat} (hi : i ≤ m.length) : (ordI m n i).length ≤ 100000 := by
  unfold ordI ordU
  have h1 := flat_le (fun n => (List.range m.length).filter fun i => manyN (m.getD i []) == n) 60 ((List.range' (n + 1) (colsN m + 1 - (n + 1))).reverse) fun k _ => by
    have := List.length_filter_le (fun i => manyN (m.getD i []) == k) (List.range m.length)
    rw [List.length_range] at this
    have := h.rows
    omega
  have h2 := List.length_filter_le (fun i => manyN (m.getD i []) == n) (List.range i)
  rw [List.length_range] at h2
  rw [List.length_append]
  rw [List.length_reverse, List.length_range'] at h1
  have := h.rows
  have := h.cols
  omega

set_option maxRecDepth 100000 in
set_option maxHeartbeats 4000000 in
theorem rOrder_any (m : List (List Int)) (a : Option Addr) (cap : Nat) (w : World) (hm : RightM m) (hl : RdM w a m) :
    Calls Try.prog 32 #[.slice a m.length cap] w (OwnRet (asI (orderL m)) w) := by
  obtain ⟨i0, hi, hz0, hz1, hz2⟩ := info_parts info3
  have HL := hid hl; clear hl
  have HM := hid hm; clear hm
  have hn := HM.out.cols
  have h0 := HM.out.some'
  have hr60 := HM.out.rows
  obtain ⟨b0, o0, ha, hlt0, ai0, ci0, hc0⟩ := HL.out.head h0
  subst ha
  have HC0 := hid hc0
  have n0 : (0 : Int) < (m.length : Int) := by omega
  generalize hnn : colsN m = n at *
  have HNN := hid hnn
  clear hnn
  go_enter Try.func32, Try.ntmps32
  go_wp2
  clear hc0
  go_loopg [3, 4] (n + 1) (fun gh s3 s4 wr => ∃ b : Nat, b ≤ n + 1 ∧ gh = 0 + b ∧ s4 = .int .i64 ((b : Int) - 1) ∧ Hid (OwnI wr w.heap.size s3 (asI (ordU m b)) ∧ Below w.heap.size w wr))
  case atStart => exact ⟨n + 1, Nat.le_refl _, by omega, by go_num, hid ⟨by have := ordU_start m; rw [HNN.out] at this; rw [this]; exact World.ownsRow_nil _ _ _ _, Below.refl _ _⟩⟩
  case round =>
    obtain ⟨b, hb, rfl, rfl, HB⟩ := hrel
    by_cases hlt : 0 < b
    · obtain ⟨b, rfl⟩ : ∃ c, b = c + 1 := ⟨b - 1, by omega⟩
      have e0 : (((b + 1 : Nat) : Int) - 1) = (b : Int) := by omega
      rw [e0]
      have e1 : (0 : Int) ≤ (b : Int) := by omega
      clear e0
      go_wp2
      go_loopg [3, 5] m.length (fun gh s3 s5 wr => ∃ i : Nat, i ≤ m.length ∧ gh = m.length - i ∧ s5 = .int .i64 i ∧ Hid (OwnI wr w.heap.size s3 (asI (ordI m b i)) ∧ Below w.heap.size w wr))
      case atStart => exact ⟨0, Nat.zero_le _, rfl, rfl, hid ⟨by rw [ordI_zero]; exact HB.out.1, HB.out.2⟩⟩
      case round =>
        obtain ⟨i, hi2, rfl, rfl, HX⟩ := hrel
        by_cases hi3 : i < m.length
        · have ni : (i : Int) < (m.length : Int) := by omega
          obtain ⟨br, orr, har, hlr, ai, ci, hcr, hrr⟩ := (HL.out.below HX.out.2).row hi3
          cases har
          have HRR := hid hrr
          have HROW := HM.out.row hi3
          have HRL := hid HROW.1
          have HS := hid (ordI_succ m b i)
          have HLE := hid (ordI_le HM.out (n := b) hi2)
          obtain ⟨row, hrw⟩ : ∃ row, row = m.getD i [] := ⟨_, rfl⟩
          rw [← hrw] at hcr HRR HRL HS
          clear hrw hrr HROW
          have hmn := manyN_le row
          have HMY := hid (fun w' (h : RdI w' ai row) => many_any row ai ci w' h (by rw [HRL.out]; have := HM.out.cols; omega))
          generalize manyN row = y at *
          by_cases hyb : y = b
          · have e2 : ((y : Int) == (b : Int)) = true := by rw [beq_iff_eq, hyb]
            have HN : Hid (ordI m b (i + 1) = ordI m b i ++ [i]) := hid (by rw [HS.out, if_pos (by rw [hyb]; simp)])
            clear hyb
            have hsz := HX.out.2.size
            go_wp2_with (first
              | (go_at_call 74; (with_reducible refine (HMY.out _ HRR.out).mono ?_); rintro e w3 ⟨rfl, rfl⟩)
              | (at_builtin; refine wpList_append_ints _ rfl _ _ rfl w.heap.size _ _ [(i : Int)] rfl (OwnI.later HX.out.1 (bnew _ _)) (some ⟨wr.heap.size, 0, none⟩) 1 rfl (rd_one _ _ _) (by rw [asI_length]; have := HLE.out; simp; omega) (by simp; omega) ?_; intro v' w3 hown' hgrow hnil; have HO := hid hown'; have HG := hid hgrow; clear hown' hgrow hnil))
            go_roundg (m.length - (i + 1))
            case measure => omega
            case rel =>
              refine ⟨i + 1, by omega, rfl, by go_num, hid ⟨?_, ?_⟩⟩
              · rw [HN.out]
                unfold asI
                rw [List.map_append]
                exact HO.out
              · exact ((HX.out.2.alloc hsz _).grown HG.out (by simp; omega) (own_ge HX.out.1))
          · have e2 : ((y : Int) == (b : Int)) = false := by rw [beq_eq_false_iff_ne]; omega
            have HN : Hid (ordI m b (i + 1) = ordI m b i) := hid (by rw [HS.out, if_neg (by simpa using hyb)])
            clear hyb
            go_wp2_with (go_at_call 74; (with_reducible refine (HMY.out _ HRR.out).mono ?_); rintro e w3 ⟨rfl, rfl⟩)
            go_roundg (m.length - (i + 1))
            case measure => omega
            case rel => exact ⟨i + 1, by omega, rfl, by go_num, hid ⟨by rw [HN.out]; exact HX.out.1, HX.out.2⟩⟩
        · have him : i = m.length := by omega
          subst him
          go_wp2
          go_roundg (0 + b)
          case measure => omega
          case rel => exact ⟨b, by omega, rfl, by go_num, hid ⟨by have h := HX.out.1; rw [ordI_end (by rw [HNN.out]; omega)] at h; exact h, HX.out.2⟩⟩
    · have hb0 : b = 0 := by omega
      subst hb0
      go_wp2
      go_ret
      exact ⟨HB.out.2, _, rfl, by rw [← ordU_end]; exact HB.out.1⟩

/-- The first row with the most entries, of the first n. -/
def bstU (m : List (List Int)) : Nat → Nat
  | 0 => 0
  | n + 1 => if manyN (m.getD (bstU m n) []) < manyN (m.getD n []) then n else bstU m n
theorem bstU_spec (m : List (List Int)) : ∀ n, 0 < n → bstU m n < n ∧ (∀ i, i < n → manyN (m.getD i []) ≤ manyN (m.getD (bstU m n) [])) ∧ ∀ i, i < bstU m n → manyN (m.getD i []) < manyN (m.getD (bstU m n) [])
  | 0, h => absurd h (Nat.lt_irrefl _)
  | 1, _ => by
    have e : bstU m 1 = 0 := by unfold bstU; split <;> rfl
    rw [e]
    exact ⟨Nat.zero_lt_one, fun i hi => by rw [show i = 0 by omega]; exact Nat.le_refl _, fun i hi => absurd hi (Nat.not_lt_zero _)⟩
  | n + 2, _ => by
    obtain ⟨h1, h2, h3⟩ := bstU_spec m (n + 1) (by omega)
    have e : bstU m (n + 2) = if manyN (m.getD (bstU m (n + 1)) []) < manyN (m.getD (n + 1) []) then n + 1 else bstU m (n + 1) := rfl
    rw [e]
    by_cases h : manyN (m.getD (bstU m (n + 1)) []) < manyN (m.getD (n + 1) [])
    · rw [if_pos h]
      refine ⟨by omega, fun i hi => ?_, fun i hi => ?_⟩
      · by_cases q : i = n + 1
        · rw [q]; exact Nat.le_refl _
        · have := h2 i (by omega); omega
      · have := h2 i (by omega); omega
    · rw [if_neg h]
      refine ⟨by omega, fun i hi => ?_, h3⟩
      by_cases q : i = n + 1
      · rw [q]; omega
      · exact h2 i (by omega)
theorem bst_is {m : List (List Int)} (hm : RightM m) : bstU m m.length = bestR m := by
  obtain ⟨h1, h2, h3⟩ := bstU_spec m m.length hm.some'
  have hol := order_length hm
  have h0 := hm.some'
  have hb : bestR m = (orderL m)[0]'(by omega) := getD_in (by omega)
  have hp := order_pair m
  have hmem : bstU m m.length ∈ orderL m := (order_mem hm).2 h1
  obtain ⟨j, hj, e⟩ := List.getElem_of_mem hmem
  by_cases hj0 : j = 0
  · subst hj0; rw [hb, e]
  · have hlt := List.pairwise_iff_getElem.1 hp 0 j (by omega) hj (by omega)
    rw [e, ← hb] at hlt
    have hbl := best_lt hm
    rcases hlt with h | ⟨h, h'⟩
    · have := h2 _ hbl
      unfold keyM at h
      omega
    · have := h3 _ h'
      unfold keyM at h
      omega
end Go.Proofs.Ytliajnflmddnoaa
