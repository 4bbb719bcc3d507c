/- SortFunc at pairs: a slice of pairs of the call's own is sorted. -/
import Derived.Test.YtgalekifgnecjaaGreatT1
import Derived.Test.YtgalekifgnecjaaGreatT2L
import Derived.Shelf.SlSortCmp.NoneTotal
import Derived.Sort.OwnSortedInts
import Derived.Test.YtgalekifgnecjaaGreatC3
namespace Go.Proofs.YtgalekifgnecjaaGreat
open Go.RowKit Go.Shelf Go.Sort
section
variable {α : Type} [Inhabited α] {E : Enc α}
theorem flatK_eq (E : Enc α) (l : List α) : flatK E.c E.k l.toArray = (l.flatMap E.c).toArray := by
  have hs : (flatK E.c E.k l.toArray).size = (l.flatMap E.c).toArray.size := by rw [size_flatK, List.size_toArray, List.size_toArray, E.length]
  refine ext_get! hs fun t ht => ?_
  rw [size_flatK, List.size_toArray] at ht
  rw [get_flatK _ _ _ _ (by rw [List.size_toArray]; exact ht)]
  have hp := E.pos
  have hi : t / E.k < l.length := (Nat.div_lt_iff_lt_mul hp).2 ht
  have hj : t % E.k < E.k := Nat.mod_lt _ hp
  have ej : t / E.k * E.k + t % E.k = t := by rw [Nat.mul_comm]; exact Nat.div_add_mod t E.k
  have h1 := E.at l (t / E.k) hi (t % E.k) hj
  rw [ej] at h1
  have ht2 : t < (l.flatMap E.c).length := by rw [E.length]; exact ht
  rw [getElem!_pos _ t (by rw [List.size_toArray]; exact ht2)]
  rw [List.getElem?_eq_getElem ht2, List.getElem?_eq_getElem (by rw [E.len]; exact hj)] at h1
  have h2 : l.toArray[t / E.k]! = l[t / E.k] := by rw [getElem!_pos _ _ (by rw [List.size_toArray]; exact hi)]; rfl
  rw [h2, getElem!_pos _ _ (by rw [E.len]; exact hj)]
  exact (Option.some.inj h1).symm
theorem holds_of_blockV {w : World} {g : Nat} {cur : Array Value} {e : TypeId} {X : List Value} (hb : w.heap[g]? = some (.cells cur e (0, 0))) (ht : cur.toList.take X.length = X) : Holds id w g 0 X.toArray := by
  intro j hj
  have hj' : j < X.length := by simpa using hj
  refine ⟨?_, by simp [World.frozen?, hb]⟩
  have h1 : (cur.toList.take X.length)[j]? = X[j]? := by rw [ht]
  rw [List.getElem?_take_of_lt hj'] at h1
  simp only [World.cell?, hb, Nat.zero_add]
  simp only [Option.isSome_none, Bool.false_eq_true, if_false]
  rw [← Array.getElem?_toList, h1]
  simp [hj']
theorem heap_sortedV {w : World} {g n : Nat} {os : Array Obj} {cur : Array Value} {e : TypeId} {fr : Nat × Nat} (d : Array Value) (hb : w.heap[g]? = some (.cells cur e fr)) :
    (grow (putRow id (Sort.ahead w n) g 0 d) os).heap[g]? = some (.cells (putCells id 0 d cur) e fr) := by
  have hg : g < w.heap.size := (Array.getElem?_eq_some_iff.1 hb).1
  rw [heap_grow_old _ _ (by simpa using hg)]
  simp [putRow, mapBlock, Sort.ahead, Array.getElem?_modify, hb, onCells]
theorem grownBy_sortedV {w : World} {g n : Nat} {os : Array Obj} (d : Array Value) : w.grownBy (grow (putRow id (Sort.ahead w n) g 0 d) os) (some g) := by
  refine ⟨rfl, rfl, rfl, by simp, fun k hk hne => ?_⟩
  rw [heap_grow_old _ _ (by simpa using hk)]
  have : g ≠ k := fun e => hne (by rw [e])
  simp [putRow, mapBlock, Sort.ahead, Array.getElem?_modify, this]
theorem take_putCellsV (cur : Array Value) (ts : List Value) (h : ts.length ≤ cur.size) : (putCells id 0 ts.toArray cur).toList.take ts.length = ts := by
  apply List.ext_getElem?
  intro j
  by_cases hj : j < ts.length
  · rw [List.getElem?_take_of_lt hj, Array.getElem?_toList]
    simp [putCells, hj, show j < cur.size by omega]
  · rw [List.getElem?_take_eq_none (by omega), List.getElem?_eq_none (by omega)]
end
theorem cmpP_lt {x y : Int × Int} : cmpP x y < 0 ↔ ltP x y = true := by
  rw [ltP_iff]
  unfold cmpP cmpLs
  split
  · rename_i h
    unfold cmpLs
    split
    · unfold cmpLs; omega
    · unfold cmpI
      split
      · omega
      · split <;> omega
  · unfold cmpI
    split
    · omega
    · split <;> omega
theorem ltOf_cmpP (x y : Int × Int) : ltOf cmpP x y = ltP x y := by
  unfold ltOf
  cases h : ltP x y with
  | true => exact decide_eq_true (cmpP_lt.2 h)
  | false => exact decide_eq_false (fun h2 => by rw [cmpP_lt.1 h2] at h; cases h)
theorem swoP : SWO (ltOf cmpP) where
  irrefl x := by rw [ltOf_cmpP]; simpa using ltP_irr x
  trans x y z h1 h2 := by rw [ltOf_cmpP] at *; exact ltP_trans h1 h2
  ntrans x y z h1 h2 := by
    rw [ltOf_cmpP] at *
    cases h : ltP x z with
    | false => rfl
    | true =>
      have n1 : ¬ ltP x y = true := by rw [h1]; exact Bool.false_ne_true
      have n2 : ¬ ltP y z = true := by rw [h2]; exact Bool.false_ne_true
      rw [ltP_iff] at n1 n2 h
      omega
theorem totP (x y : Int × Int) (h1 : ltOf cmpP x y = false) (h2 : ltOf cmpP y x = false) : x = y := by
  rw [ltOf_cmpP] at *
  refine Decidable.byContradiction fun hne => ?_
  have := ltP_total (x := x) (y := y) (by rw [h1]; exact Bool.false_ne_true) hne
  rw [h2] at this
  cases this
theorem sortedP_merge {l S : List (Int × Int)} (hp : l.Perm S) (hS : SortedP S) : (l.mergeSort fun x y => !(ltOf cmpP) y x) = S := by
  have hq := List.mergeSort_perm l (fun x y => !(ltOf cmpP) y x)
  have hs := List.pairwise_mergeSort (le := fun x y : Int × Int => !(ltOf cmpP) y x) (fun a b c h1 h2 => by
    simp only [Bool.not_eq_true'] at *
    exact swoP.ntrans _ _ _ h2 h1) (fun a b => by
    cases h : ltOf cmpP b a with
    | false => rfl
    | true =>
      cases h2 : ltOf cmpP a b with
      | false => rfl
      | true =>
        have := swoP.trans _ _ _ h h2
        rw [swoP.irrefl] at this
        cases this) l
  have hd := ((hq.trans hp).nodup_iff).2 (sortedP_nodup hS)
  refine sortedP_ext ?_ hS fun x => (hq.trans hp).mem_iff
  refine (hs.and hd).imp ?_
  intro a b h
  obtain ⟨h1, h2⟩ := h
  simp only [Bool.not_eq_true', ltOf_cmpP] at h1
  exact ltP_total (by rw [h1]; exact Bool.false_ne_true) (fun e => h2 e.symm)
instance : Inhabited (Int × Int) := inferInstance
/-- A slice of pairs of the call's own is sorted. -/
theorem sortP_any (base : Nat) (v : Value) (l S : List (Int × Int)) (w : World) (h : OwnX encP 48 w base v l) (hp : l.Perm S) (hS : SortedP S) (hl : l.length ≤ 1000000) :
    Calls Tryz.prog 64 #[v, .func (.func 65) #[] #[]] w fun e w' => e = .returned (.tuple #[]) ∧ OwnX encP 48 w' base v S ∧ w.grownBy w' v.ownBlock := by
  have hlen : S.length = l.length := hp.length_eq.symm
  rcases h.2 with ⟨rfl, h0⟩ | ⟨g, cap, cur, rfl, hb, hg, h1, h2, h3, h4⟩
  · have hl0 : l = [] := List.eq_nil_of_length_eq_zero h0
    subst hl0
    obtain rfl : S = [] := List.eq_nil_of_length_eq_zero hlen
    refine (AnyF.slices_SortFunc_none Tryz.sortP none 0 _ w).mono ?_
    rintro e w' ⟨rfl, rfl⟩
    exact ⟨rfl, OwnX.nil _ _ _, rfl, rfl, rfl, Nat.le_refl _, fun _ _ _ => rfl⟩
  · have hX : (l.flatMap encP.c).length = l.length * 2 := encP.length l
    have hY : (S.flatMap encP.c).length = l.length * 2 := by rw [← hlen]; exact encP.length S
    have hH : HoldsK encP.c 2 w g 0 l.toArray := by
      unfold HoldsK
      rw [show (2 : Nat) = encP.k from rfl, flatK_eq encP l]
      exact holds_of_blockV hg (by rw [hX]; exact h4)
    have eg : ∀ args w, (callFunc 65 args).run Tryz.prog w = .ok (.enter 65 args) w := enters_of Tryz.func65 (by kernel_rfl) rfl
    have hcon := AnyQ.slices_SortFunc_total Tryz.sortP 2 Tryz.isAgg48 Tryz.sizeOf48 encP.c (fun _ => rfl) encP.one cmpP swoP 65 #[] g 0 cap l.toArray w eg (fun _ _ _ _ x y => k65 x y _) hH (lt_of_heap hg) (by rw [List.size_toArray]; omega) totP
    refine hcon.mono ?_
    rintro e w' ⟨rfl, n, os, rfl⟩
    rw [show l.toArray.toList = l from rfl, sortedP_merge hp hS]
    unfold sortWorldK putRowK
    rw [show (2 : Nat) = encP.k from rfl, flatK_eq encP S]
    refine ⟨rfl, ⟨encP.length S, .inr ⟨g, cap, _, by rw [hlen], hb, heap_sortedV _ hg, by omega, h2, by simp [putCells, h3], ?_⟩⟩, grownBy_sortedV _⟩
    have := take_putCellsV cur (S.flatMap encP.c) (by rw [hY, h3]; exact Nat.mul_le_mul_right _ h1)
    rw [hY, ← hlen] at this
    exact this
end Go.Proofs.YtgalekifgnecjaaGreat
