/- Comparison of numbers and of lists of numbers. The comparison of pairs: Clashes's closure. -/
import Derived.Test.YtgalekifgnecjaaGreatS3
import Derived.Test.YtgalekifgnecjaaGreatC2
import Derived.Deep.RegionWith
namespace Go.Proofs.YtgalekifgnecjaaGreat
open Go.RowKit

attribute [local go_sem] Oper.semAt_some
def cmpI (x y : Int) : Int := if x < y then -1 else if y < x then 1 else 0
def cmpLs : List Int → List Int → Int
  | x :: l, y :: m => if x = y then cmpLs l m else cmpI x y
  | _, _ => 0
theorem nan_any (x : Int) (w : World) : Calls Tryz.prog 138 #[.int .i64 x] w (fun e w' => e = .returned (.bool false) ∧ w' = w) := by
  have d : (x != x) = false := by simp
  go_enter Tryz.func138, Tryz.ntmps138
  go_wp2
  go_ret
  exact ⟨rfl, rfl⟩
set_option maxRecDepth 100000 in
set_option maxHeartbeats 4000000 in
theorem cmp_any (x y : Int) (w : World) : Calls Tryz.prog 67 #[.int .i64 x, .int .i64 y] w (fun e w' => e = .returned (.int .i64 (cmpI x y)) ∧ w' = w) := by
  have HN := hid (fun z w => nan_any z w)
  have HE : Hid (cmpI x y = if x < y then -1 else if y < x then 1 else 0) := hid rfl
  generalize cmpI x y = r at *
  rcases Int.lt_trichotomy x y with h | h | h
  · rw [if_pos h] at HE
    have h2 : ¬ y < x := by omega
    go_enter Tryz.func67, Tryz.ntmps67
    go_wp2_with (go_at_call 138; (with_reducible refine (HN.out _ _).mono ?_); rintro e w' ⟨rfl, rfl⟩)
    go_ret
    exact ⟨by rw [HE.out]; rfl, rfl⟩
  · subst h
    have h2 : ¬ x < x := by omega
    rw [if_neg h2, if_neg h2] at HE
    go_enter Tryz.func67, Tryz.ntmps67
    go_wp2_with (go_at_call 138; (with_reducible refine (HN.out _ _).mono ?_); rintro e w' ⟨rfl, rfl⟩)
    go_ret
    exact ⟨by rw [HE.out]; rfl, rfl⟩
  · have h2 : ¬ x < y := by omega
    rw [if_neg h2, if_pos h] at HE
    have h3 : y < x := h
    go_enter Tryz.func67, Tryz.ntmps67
    go_wp2_with (go_at_call 138; (with_reducible refine (HN.out _ _).mono ?_); rintro e w' ⟨rfl, rfl⟩)
    go_ret
    exact ⟨by rw [HE.out]; rfl, rfl⟩
theorem cmpI_zero {x y : Int} : cmpI x y = 0 ↔ x = y := by
  unfold cmpI
  split
  · omega
  · split <;> omega
set_option maxRecDepth 100000 in
set_option maxHeartbeats 4000000 in
theorem compare_any (l m : List Int) (a b : Option Addr) (ac bc : Nat) (w : World) (hl : RdI w a l) (hm : RdI w b m) (he : m.length = l.length) (hll : l.length ≤ 1000000) :
    Calls Tryz.prog 21 #[.slice a l.length ac, .slice b l.length bc] w (fun e w' => e = .returned (.int .i64 (cmpLs l m)) ∧ w' = w) := by
  have HL := hid hl
  have HM := hid hm
  have HE := hid he
  have HC := hid (fun x y w => cmp_any x y w)
  clear hl hm he
  have n9 : ¬ (l.length : Int) < (l.length : Int) := by omega
  go_enter Tryz.func21, Tryz.ntmps21
  go_wp2
  go_loopg [11] l.length (fun gh s11 wr => ∃ k : Nat, k ≤ l.length ∧ gh = l.length - k ∧ s11 = .int .i64 k ∧ Hid (cmpLs l m = cmpLs (l.drop k) (m.drop k)) ∧ wr = w)
  case atStart => exact ⟨0, Nat.zero_le _, rfl, rfl, hid rfl, rfl⟩
  case round =>
    obtain ⟨k, hk, rfl, rfl, HQ, rfl⟩ := hrel
    by_cases hlk : k < l.length
    · have hmk : k < m.length := by rw [HE.out]; exact hlk
      obtain ⟨b1, o1, ha1, _, h1⟩ := HL.out k hlk
      obtain ⟨b2, o2, ha2, _, h2⟩ := HM.out k hmk
      subst ha1 ha2
      have nk : (k : Int) < (l.length : Int) := by omega
      have nk2 : ¬ (l.length : Int) ≤ (k : Int) := by omega
      have HD : Hid (cmpLs (l.drop k) (m.drop k) = if l[k] = m[k] then cmpLs (l.drop (k + 1)) (m.drop (k + 1)) else cmpI l[k] m[k]) := hid (by rw [List.drop_eq_getElem_cons hlk, List.drop_eq_getElem_cons hmk]; rfl)
      generalize l[k] = x at *
      generalize m[k] = y at *
      by_cases hxy : x = y
      · rw [if_pos hxy] at HD
        have HC0 : Hid (cmpI x y = 0) := hid (cmpI_zero.2 hxy)
        clear hxy
        have HCC := hid (fun w => HC.out x y w)
        rw [HC0.out] at HCC
        go_wp2_with (go_at_call 67; (with_reducible refine (HCC.out _).mono ?_); rintro e w' ⟨rfl, rfl⟩)
        go_roundg (l.length - (k + 1))
        case measure => omega
        case rel => exact ⟨k + 1, by omega, rfl, by go_num, hid (HQ.out.trans HD.out), rfl⟩
      · rw [if_neg hxy] at HD
        have hne : cmpI x y ≠ 0 := fun h => hxy (cmpI_zero.1 h)
        have d : (cmpI x y != 0) = true := by simpa using hne
        clear hxy hne
        generalize hcc : cmpI x y = c at *
        have HCC := hid (fun w => HC.out x y w)
        rw [hcc] at HCC
        have HCE := hid hcc
        clear hcc
        go_wp2_with (go_at_call 67; (with_reducible refine (HCC.out _).mono ?_); rintro e w' ⟨rfl, rfl⟩)
        go_ret
        exact ⟨by rw [HQ.out, HD.out]; rfl, rfl⟩
    · obtain rfl : k = l.length := by omega
      have HZ : Hid (cmpLs (l.drop l.length) (m.drop l.length) = 0) := hid (by rw [List.drop_length]; rfl)
      go_wp2
      go_ret
      exact ⟨by rw [HQ.out, HZ.out]; rfl, rfl⟩

def cmpP (p q : Int × Int) : Int := cmpLs [p.1, p.2] [q.1, q.2]
theorem rdI_pair (w : World) (p : Int × Int) (b : Nat) (T : TypeId) (h : w.heap[b]? = some (.cells #[.int .i64 p.1, .int .i64 p.2] T)) : RdI w (some ⟨b, 0, none⟩) [p.1, p.2] := by
  intro i hi
  refine ⟨b, 0, rfl, lt_of_heap h, ?_⟩
  have hi2 : i < 2 := hi
  rcases (show i = 0 ∨ i = 1 by omega) with rfl | rfl
  · exact (cell_of_row _ _ 0 _ _ _ h).trans rfl
  · exact (cell_of_row _ _ 1 _ _ _ h).trans rfl
set_option maxRecDepth 100000 in
set_option maxHeartbeats 4000000 in
theorem k65 (x y : Int × Int) (w : World) : Calls Tryz.prog 65 #[.agg #[.int .i64 x.1, .int .i64 x.2], .agg #[.int .i64 y.1, .int .i64 y.2]] w fun e w' => e = .returned (.int .i64 (cmpP x y)) ∧ ∃ q os', w' = Go.Sort.grow (w.drewN q) os' := by
  have HX0 := hid (keepBox (bnew _ (.cells #[.int .i64 y.1, .int .i64 y.2] 48)) (heapn w (.cells #[.int .i64 x.1, .int .i64 x.2] 48) _ rfl))
  have HX1 := hid (heapn (w.alloc (.cells #[.int .i64 x.1, .int .i64 x.2] 48)) (.cells #[.int .i64 y.1, .int .i64 y.2] 48) (w.heap.size + 1) (by simp))
  have HC : Hid (Calls Tryz.prog 21 #[.slice (some ⟨w.heap.size, 0, none⟩) 2 2, .slice (some ⟨w.heap.size + 1, 0, none⟩) 2 2] ((w.alloc (.cells #[.int .i64 x.1, .int .i64 x.2] 48)).alloc (.cells #[.int .i64 y.1, .int .i64 y.2] 48)).drew (fun e w' => e = .returned (.int .i64 (cmpP x y)) ∧ w' = ((w.alloc (.cells #[.int .i64 x.1, .int .i64 x.2] 48)).alloc (.cells #[.int .i64 y.1, .int .i64 y.2] 48)).drew)) := hid
    (compare_any [x.1, x.2] [y.1, y.2] (some ⟨w.heap.size, 0, none⟩) (some ⟨w.heap.size + 1, 0, none⟩) 2 2 _ (rdI_pair _ x _ 48 HX0.out) (rdI_pair _ y _ 48 HX1.out) rfl (by simp))
  go_enter Tryz.func65, Tryz.ntmps65
  go_upto_region 1 with fail
  go_region_with (go_at_call 21; (with_reducible refine HC.out.mono ?_); rintro e w' ⟨rfl, rfl⟩)
  all_goals
    go_wp2 
    go_ret
    refine ⟨rfl, 1, #[.cells #[.int .i64 x.1, .int .i64 x.2] 48, .cells #[.int .i64 y.1, .int .i64 y.2] 48], ?_⟩
    rw [Go.Sort.alloc_eq_grow, Go.Sort.alloc_eq_grow, Go.Sort.grow_grow, Go.Sort.drew_grow]
    rfl
end Go.Proofs.YtgalekifgnecjaaGreat
