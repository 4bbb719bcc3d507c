/- The contract of colour of package table: the colours of the columns. -/
import Derived.Test.YtliajnflmddnoaaG3
import Derived.Deep.LoopGhost
namespace Go.Proofs.Ytliajnflmddnoaa
open Go.RowKit

/-- Small numbers as numbers of the program. -/
def asI (l : List Nat) : List Int := l.map Int.ofNat
theorem asI_length (l : List Nat) : (asI l).length = l.length := by simp [asI]
theorem asI_at {l : List Nat} {i : Nat} (h : i < (asI l).length) : (asI l)[i] = (l.getD i 0 : Nat) := by
  rw [asI_length] at h
  simp [asI, h]
theorem rd_one (w : World) (x : Int) (T : TypeId) : RdI (w.alloc (.cells #[.int .i64 x] T)) (some ⟨w.heap.size, 0, none⟩) [x] := by
  intro i hi
  obtain rfl : i = 0 := by simp at hi; exact hi
  exact ⟨_, _, rfl, lt_alloc _ _, cell0_alloc _ _ _⟩

/-- How many columns ahead clash with b and have colour k, of the first d. -/
def cntC (m : List (List Int)) (b d k : Nat) : Nat := ((List.range d).filter fun a => (colL m b).getD a 0 == k && clB m a b).length
theorem cntC_zero (m : List (List Int)) (b k : Nat) : cntC m b 0 k = 0 := rfl
theorem cntC_le (m : List (List Int)) (b d k : Nat) : cntC m b d k ≤ d := by
  have := List.length_filter_le (fun a => (colL m b).getD a 0 == k && clB m a b) (List.range d)
  rwa [List.length_range] at this
theorem cntC_succ (m : List (List Int)) (b d k : Nat) : cntC m b (d + 1) k = if ((colL m b).getD d 0 == k && clB m d b) = true then cntC m b d k + 1 else cntC m b d k := by
  unfold cntC
  rw [List.range_succ, List.filter_append]
  by_cases h : ((colL m b).getD d 0 == k && clB m d b) = true
  · rw [if_pos h, show [d].filter (fun a => (colL m b).getD a 0 == k && clB m a b) = [d] from List.filter_cons_of_pos h, List.length_append]
    rfl
  · rw [if_neg h, show [d].filter (fun a => (colL m b).getD a 0 == k && clB m a b) = [] from List.filter_cons_of_neg h, List.append_nil]
theorem cntC_free (m : List (List Int)) (b k : Nat) : freeC m (colL m b) b k = decide (cntC m b b k = 0) := by
  unfold freeC cntC
  rw [Bool.eq_iff_iff, List.all_eq_true, decide_eq_true_eq, List.length_eq_zero_iff, List.filter_eq_nil_iff]
  simp only [List.mem_range, Bool.not_eq_true', Bool.and_eq_false_iff, Bool.and_eq_true, not_and, Bool.not_eq_true]
  constructor
  · intro h a ha e
    rcases h a ha with h | h
    · rw [e] at h; cases h
    · exact h
  · intro h a ha
    cases e : (colL m b).getD a 0 == k with
    | true => exact .inr (h a ha e)
    | false => exact .inl rfl

/-- Block g holds 401 numbers. -/
def NA (w : World) (g : Nat) (f : Nat → Int) : Prop := ∃ cur, w.heap[g]? = some (.cells cur 121 (0, 0)) ∧ ∀ k, k < 401 → cur[k]? = some (.int .i64 (f k))
theorem NA.at {w : World} {g : Nat} {f : Nat → Int} (h : NA w g f) {k : Nat} (hk : k < 401) : w.cell? ⟨g, k, none⟩ = some (.int .i64 (f k)) := by
  obtain ⟨cur, hh, hc⟩ := h
  rw [cell_of_row _ _ _ _ _ _ hh]
  exact hc k hk
theorem NA.frozen {w : World} {g : Nat} {f : Nat → Int} (h : NA w g f) (o : Nat) : w.frozen? ⟨g, o, none⟩ = false := by
  obtain ⟨cur, hh, _⟩ := h
  simp [World.frozen?, hh]
theorem NA.lt {w : World} {g : Nat} {f : Nat → Int} (h : NA w g f) : g < w.heap.size := by
  obtain ⟨cur, hh, _⟩ := h
  exact lt_of_heap hh
theorem NA.below {w w' : World} {g : Nat} {f : Nat → Int} (h : NA w g f) (hb : Below w.heap.size w w') : NA w' g f := by
  obtain ⟨cur, hh, hc⟩ := h
  exact ⟨cur, keepBox hb hh, hc⟩
theorem NA.set {w : World} {g : Nat} {f f' : Nat → Int} (h : NA w g f) {i : Nat} (hi : i < 401) (v : Int) (hv : f' i = v) (hf : ∀ k, k ≠ i → f' k = f k) : NA (w.setCell ⟨g, i, none⟩ (.int .i64 v)) g f' := by
  obtain ⟨cur, hh, hc⟩ := h
  have hsz : i < cur.size := (Array.getElem?_eq_some_iff.1 (hc i hi)).1
  refine ⟨_, heap_setCell_same _ _ _ _ _ _ hh, fun k hk => ?_⟩
  rw [Array.getElem?_setIfInBounds]
  by_cases e : i = k
  · subst e
    simp [hsz, hv]
  · rw [if_neg e, hf k (fun h => e h.symm)]
    exact hc k hk
theorem zero121 : Try.zeroCells121 = Array.replicate 401 (.int .i64 0) := by kernel_rfl
theorem NA.new (w : World) (m : List (List Int)) (b : Nat) : NA (w.alloc (.cells Try.zeroCells121 121)) w.heap.size (fun k => (cntC m b 0 k : Nat)) :=
  ⟨_, heapn _ _ _ rfl, fun k hk => by rw [zero121, Array.getElem?_replicate, if_pos hk]; rfl⟩

set_option maxRecDepth 100000 in
set_option maxHeartbeats 1000000 in
theorem colour_any (m : List (List Int)) (a : Option Addr) (cap : Nat) (w : World) (hm : RightM m) (hl : RdM w a m) :
    Calls Try.prog 50 #[.slice a m.length cap] w (fun e w' => Below w.heap.size w w' ∧ ∃ v, e = .returned (.tuple #[v, .int .i64 (manyC (colL m (colsN m)))]) ∧ OwnI w' w.heap.size v (asI (colL m (colsN m)))) := by
  obtain ⟨i0, hi, hz0, hz1, hz2⟩ := info_parts info3
  have HL := hid hl; clear hl
  have HM := hid hm; clear hm
  have hn := HM.out.cols
  have h0 := HM.out.some'
  obtain ⟨b0, o0, ha, hlt0, ai0, ci0, hc0⟩ := HL.out.head h0
  subst ha
  have n0 : (0 : Int) < (m.length : Int) := by omega
  generalize hnn : colsN m = n at *
  have HNN := hid hnn
  clear hnn
  go_enter Try.func50, Try.ntmps50
  go_wp2
  go_loopg [4, 5, 14] n (fun gh s4 s5 s14 wr => ∃ b : Nat, b ≤ n ∧ gh = n - b ∧ s14 = .int .i64 b ∧ s5 = .int .i64 (manyC (colL m b)) ∧ Hid (OwnI wr w.heap.size s4 (asI (colL m b)) ∧ Below w.heap.size w wr))
  case atStart => exact ⟨0, Nat.zero_le _, rfl, rfl, rfl, hid ⟨World.ownsRow_nil _ _ _ _, Below.refl _ _⟩⟩
  case round =>
    obtain ⟨b, hb, rfl, rfl, rfl, HB⟩ := hrel
    by_cases hlt : b < n
    · obtain ⟨wo, rfl⟩ : ∃ wo : World, wo = wr := ⟨_, rfl⟩
      have hlt' : (b : Int) < (n : Int) := by omega
      obtain ⟨ao, co, rfl, hrd⟩ := HB.out.1.rd
      have HRD := hid hrd
      clear hrd
      go_wp2
      go_loopg [18] b (fun gh s18 wr => ∃ d : Nat, d ≤ b ∧ gh = b - d ∧ s18 = .int .i64 d ∧ Hid (NA wr wo.heap.size (fun k => (cntC m b d k : Nat)) ∧ Below wo.heap.size wo wr))
      case atStart => exact ⟨0, Nat.zero_le _, rfl, rfl, hid ⟨NA.new _ _ _, bnew _ _⟩⟩
      case round =>
        obtain ⟨d, hd, rfl, rfl, HX⟩ := hrel
        by_cases hdb : d < b
        · have hdb' : (d : Int) < (b : Int) := by omega
          have hcl := (clashM_comm m b d ▸ clashM_clB m d b : decide (0 ≤ clashM m b d) = clB m d b)
          have hidx := idxP_lt (cl b d) m
          have HC := hid hcl
          clear hcl hidx
          by_cases hz : 0 ≤ clashM m b d
          · have hcl : clB m d b = true := by rw [← HC.out]; exact decide_eq_true hz
            have HCL := hid hcl
            clear hcl
            have hy := colL_le m b d hdb
            obtain ⟨bo, oo, hao, hlto, hco⟩ := HRD.out d (by rw [asI_length, colL_length]; omega)
            rw [asI_at] at hco
            subst hao
            have HNAt := hid (fun k (hk : k < 401) => HX.out.1.at hk)
            obtain ⟨y, hyy⟩ : ∃ y, y = (colL m b).getD d 0 := ⟨_, rfl⟩
            rw [← hyy] at hco hy
            have HY := hid hyy
            clear hyy
            obtain ⟨q, hq⟩ : ∃ q, q = cntC m b d y := ⟨_, rfl⟩
            have hq0 := HNAt.out y (by omega)
            have hqle := cntC_le m b d y
            rw [← hq] at hqle hq0
            have HQ := hid hq
            clear hq
            have HCO := hid hco
            have HQ0 := hid hq0
            clear hco hq0
            have y401 : (y : Int) < 401 := by omega
            have dl : (d : Int) < ((colL m b).length : Int) := by rw [colL_length]; omega
            have dl2 : (d : Int) < ((asI (colL m b)).length : Int) := by rw [asI_length]; exact dl
            have hw1 : IntKind.i64.wrap ((q : Int) + 1) = ((q + 1 : Nat) : Int) := by rw [wrapk (by omega)]; omega
            go_wp2_with (go_at_call 77; refine (clash_any m _ cap b d _ HM.out (HL.out.below (HB.out.2.step HX.out.2)) (by rw [HNN.out]; omega) (by rw [HNN.out]; omega)).mono ?_; rintro e w3 ⟨rfl, hb3⟩; have HB3 := hid hb3; clear hb3; have c1 := cell_later (HX.out.2.step HB3.out) HCO.out; have c2 := cell_later HB3.out HQ0.out; have c3 := (HX.out.1.below HB3.out).frozen y)
            go_roundg (b - (d + 1))
            case rel =>
              refine ⟨d + 1, by omega, rfl, by go_num, hid ⟨(HX.out.1.below HB3.out).set (i := y) (by omega) _ ?_ ?_, (HX.out.2.step HB3.out).setCell (p := ⟨wo.heap.size, y, none⟩) (Nat.le_refl _) _⟩⟩
              · show ((cntC m b (d + 1) y : Nat) : Int) = _
                rw [cntC_succ, if_pos (by rw [← HY.out, HCL.out]; simp), HQ.out]
                omega
              · intro k hk
                show ((cntC m b (d + 1) k : Nat) : Int) = _
                rw [cntC_succ, if_neg (by rw [← HY.out]; simp; omega)]
            case measure => omega
          · have hcl : clB m d b = false := by rw [← HC.out]; exact decide_eq_false hz
            have HCL := hid hcl
            clear hcl
            go_wp2_with (go_at_call 77; refine (clash_any m _ cap b d _ HM.out (HL.out.below (HB.out.2.step HX.out.2)) (by rw [HNN.out]; omega) (by rw [HNN.out]; omega)).mono ?_; rintro e w3 ⟨rfl, hb3⟩; have HB3 := hid hb3; clear hb3)
            go_roundg (b - (d + 1))
            case rel =>
              refine ⟨d + 1, by omega, rfl, by go_num, hid ⟨?_, HX.out.2.step HB3.out⟩⟩
              have e : (fun k => ((cntC m b (d + 1) k : Nat) : Int)) = fun k => ((cntC m b d k : Nat) : Int) := by
                funext k
                rw [cntC_succ, if_neg (by rw [HCL.out]; simp)]
              rw [e]
              exact HX.out.1.below HB3.out
            case measure => omega
        · have hdb' : d = b := by omega
          subst hdb'
          clear hd hdb
          obtain ⟨wi, rfl⟩ : ∃ wi : World, wi = wr := ⟨_, rfl⟩
          go_wp2
          go_loopg [9] d (fun gh s9 wr => ∃ k : Nat, k ≤ d ∧ gh = d - k ∧ s9 = .int .i64 k ∧ wr = wi ∧ Hid (∀ j, j < k → freeC m (colL m d) d j = false))
          case atStart => exact ⟨0, Nat.zero_le _, rfl, rfl, rfl, hid (fun j hj => absurd hj (Nat.not_lt_zero _))⟩
          case round =>
            obtain ⟨k, hk, rfl, rfl, rfl, HK⟩ := hrel
            have hck := HX.out.1.at (k := k) (by omega)
            have hfr := cntC_free m d k
            obtain ⟨q, hq⟩ : ∃ q, q = cntC m d d k := ⟨_, rfl⟩
            rw [← hq] at hck hfr
            have k401 : (k : Int) < 401 := by omega
            by_cases hq0 : 0 < q
            · have hq1 : (0 : Int) < (q : Int) := by omega
              have hff : freeC m (colL m d) d k = false := by rw [hfr]; simp; omega
              have hkd : k ≠ d := by
                intro e
                rw [e, freeC_self] at hff
                cases hff
              have HFF := hid hff
              clear hff hfr hq
              go_wp2
              go_roundg (d - (k + 1))
              case rel =>
                refine ⟨k + 1, by omega, rfl, by go_num, rfl, hid (fun j hj => ?_)⟩
                by_cases e : j = k
                · rw [e]; exact HFF.out
                · exact HK.out j (by omega)
              case measure => omega
            · have hq1 : ¬ (0 : Int) < (q : Int) := by omega
              have hff : freeC m (colL m d) d k = true := by rw [hfr]; simp; omega
              have hcol := colAt_is hff HK.out
              have HCOL := hid hcol
              have hkd : colAt m (colL m d) d = k := hcol
              clear hff hfr hq hcol hkd
              have hown : Hid (OwnI wr w.heap.size (.slice ao (asI (colL m d)).length co) (asI (colL m d))) := hid (HB.out.1.later HX.out.2)
              have hsz := (HB.out.2.step HX.out.2).size
              have hwk : IntKind.i64.wrap ((k : Int) + 1) = ((k + 1 : Nat) : Int) := by rw [wrapk (by omega)]; omega
              go_wp2_with (at_builtin; refine wpList_append_ints _ rfl _ _ rfl w.heap.size _ _ [(k : Int)] rfl (OwnI.later hown.out (bnew _ _)) (some ⟨wr.heap.size, 0, none⟩) 1 rfl (rd_one _ _ _) (by rw [asI_length, colL_length]; simp; omega) (by simp; omega) ?_; intro v' w3 hown' hgrow hnil)
              all_goals
                have hmc : manyC (colL m (d + 1)) = max (manyC (colL m d)) (k + 1) := by
                  show manyC (colL m d ++ [colAt m (colL m d) d]) = _
                  rw [manyC_append, HCOL.out]
                go_roundg (n - (d + 1))
                case rel =>
                  refine ⟨d + 1, by omega, rfl, by go_num, ?_, hid ⟨?_, ?_⟩⟩
                  · rw [hmc]
                    go_num
                  · show OwnI _ _ _ (asI (colL m d ++ [colAt m (colL m d) d]))
                    rw [HCOL.out]
                    unfold asI
                    rw [List.map_append]
                    exact hown'
                  · exact (((HB.out.2.step HX.out.2).alloc hsz _).grown hgrow (by simp; omega) (own_ge hown.out))
                case measure => omega
    · have hbn : b = n := by omega
      subst hbn
      go_wp2
      go_ret2
      exact ⟨HB.out.2, _, rfl, HB.out.1⟩
end Go.Proofs.Ytliajnflmddnoaa
