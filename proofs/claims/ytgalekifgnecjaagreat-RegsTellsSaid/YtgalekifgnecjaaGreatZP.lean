/- A matrix of truths in memory; which pairs it tells. The reference of layer 16: clash. -/
import Derived.Test.YtgalekifgnecjaaGreatZK
import Derived.Test.YtgalekifgnecjaaGreatX1
import Derived.Test.YtgalekifgnecjaaGreatZO
namespace Go.Proofs.YtgalekifgnecjaaGreat
open Go.RowKit

open Go.RowKit Go.Shelf
def updF (F : Nat → Nat → Bool) (i j : Nat) (v : Bool) : Nat → Nat → Bool := fun a c => if a = i ∧ c = j then v else F a c
/-- A block of truths. -/
def BF (w : World) (g n : Nat) (f : Nat → Bool) : Prop := ∃ cur, w.heap[g]? = some (.cells cur 4 (0, 0)) ∧ cur.size = n ∧ ∀ i, i < n → cur[i]? = some (.bool (f i))
theorem BF.keep {w w' : World} {g n : Nat} {f : Nat → Bool} (h : BF w g n f) (e : w'.heap[g]? = w.heap[g]?) : BF w' g n f := by
  obtain ⟨cur, h1, h2⟩ := h
  exact ⟨cur, e.trans h1, h2⟩
theorem BF.below {w w' : World} {g n : Nat} {f : Nat → Bool} (h : BF w g n f) (hb : Below w.heap.size w w') : BF w' g n f := by
  obtain ⟨cur, h1, h2⟩ := h
  exact ⟨cur, keepBox hb h1, h2⟩
theorem BF.set {w : World} {g n : Nat} {f : Nat → Bool} (h : BF w g n f) {i : Nat} (hi : i < n) (v : Bool) : BF (w.setCell ⟨g, i, none⟩ (.bool v)) g n (fun c => if c = i then v else f c) := by
  obtain ⟨cur, h1, h2, h3⟩ := h
  refine ⟨_, heap_setCell_same _ _ i _ _ _ h1, by simp [h2], fun j hj => ?_⟩
  by_cases e : j = i
  · subst e
    simp [h2, hi]
  · rw [Array.getElem?_setIfInBounds_ne (fun e2 => e e2.symm), h3 j hj]
    simp [e]
theorem bf_made (w : World) (n : Nat) : BF (w.alloc (.cells (madeCells #[.bool false] n) 4)) w.heap.size n (fun _ => false) := by
  refine ⟨_, heapn _ _ _ rfl, by simp [madeCells], fun i hi => ?_⟩
  simp [madeCells, hi, Nat.mod_one]
structure MB (w : World) (b n k : Nat) (g : Nat → Nat) (F : Nat → Nat → Bool) : Prop where
  mat : ∃ cur, w.heap[b]? = some (.cells cur 137 (0, 0)) ∧ cur.size = n ∧ ∀ i, i < k → cur[i]? = some (.slice (some ⟨g i, 0, none⟩) n n)
  row : ∀ i, i < k → BF w (g i) n (F i)
  inj : ∀ i j, i < k → j < k → g i = g j → i = j
  nb : ∀ i, i < k → b < g i
theorem MB.below {w w' : World} {b n k : Nat} {g : Nat → Nat} {F : Nat → Nat → Bool} (h : MB w b n k g F) (hb : Below w.heap.size w w') : MB w' b n k g F := by
  obtain ⟨cur, h1, h2, h3⟩ := h.mat
  exact ⟨⟨cur, keepBox hb h1, h2, h3⟩, fun i hi => (h.row i hi).below hb, h.inj, h.nb⟩
theorem MB.cellAt {w : World} {b n k : Nat} {g : Nat → Nat} {F : Nat → Nat → Bool} (h : MB w b n k g F) {i : Nat} (hi : i < k) : w.cell? ⟨b, i, none⟩ = some (.slice (some ⟨g i, 0, none⟩) n n) := by
  obtain ⟨cur, h1, h2, h3⟩ := h.mat
  rw [cell_of_row _ _ _ _ _ _ h1]
  exact h3 i hi
theorem MB.lt {w : World} {b n k : Nat} {g : Nat → Nat} {F : Nat → Nat → Bool} (h : MB w b n k g F) : b < w.heap.size := by
  obtain ⟨cur, h1, _⟩ := h.mat
  exact lt_of_heap h1
theorem MB.bz {w : World} {b n k : Nat} {g : Nat → Nat} {F : Nat → Nat → Bool} (h : MB w b n k g F) (o : Nat) : w.frozen? ⟨b, o, none⟩ = false := by
  obtain ⟨cur, h1, _⟩ := h.mat
  exact boxF o h1
theorem MB.old {w : World} {b n k : Nat} {g : Nat → Nat} {F : Nat → Nat → Bool} (h : MB w b n k g F) {i : Nat} (hi : i < n) : ∃ v, w.cell? ⟨b, i, none⟩ = some v := by
  obtain ⟨cur, h1, h2, h3⟩ := h.mat
  rw [cell_of_row _ _ _ _ _ _ h1]
  exact ⟨_, Array.getElem?_eq_getElem (by omega)⟩
theorem MB.at {w : World} {b n k : Nat} {g : Nat → Nat} {F : Nat → Nat → Bool} (h : MB w b n k g F) {i j : Nat} (hi : i < k) (hj : j < n) : w.cell? ⟨g i, j, none⟩ = some (.bool (F i j)) := by
  obtain ⟨cur, h1, h2, h3⟩ := h.row i hi
  rw [cell_of_row _ _ _ _ _ _ h1]
  exact h3 j hj
theorem MB.rz {w : World} {b n k : Nat} {g : Nat → Nat} {F : Nat → Nat → Bool} (h : MB w b n k g F) {i : Nat} (hi : i < k) (o : Nat) : w.frozen? ⟨g i, o, none⟩ = false := by
  obtain ⟨cur, h1, _⟩ := h.row i hi
  exact boxF o h1
theorem MB.put {w : World} {b n k : Nat} {g : Nat → Nat} {F : Nat → Nat → Bool} (h : MB w b n k g F) {i j : Nat} (hi : i < k) (hj : j < n) (v : Bool) : MB (w.setCell ⟨g i, j, none⟩ (.bool v)) b n k g (updF F i j v) := by
  obtain ⟨cur, h1, h2, h3⟩ := h.mat
  refine ⟨⟨cur, (heap_setCell_other _ _ _ _ (fun e => by have := h.nb i hi; have e2 : b = g i := e; omega)).trans h1, h2, h3⟩, fun a ha => ?_, h.inj, h.nb⟩
  by_cases e : a = i
  · subst e
    have h4 := (h.row a ha).set hj v
    have e2 : updF F a j v a = fun c => if c = j then v else F a c := by funext c; simp [updF]
    rw [e2]
    exact h4
  · have e2 : updF F i j v a = F a := by funext c; simp [updF, e]
    rw [e2]
    exact (h.row a ha).keep (heap_setCell_other _ _ _ _ (fun e3 => e (h.inj a i ha hi e3)))
/-- Lists of numbers stay where a row of the matrix is written. -/
theorem MB.keepI {w : World} {b n k : Nat} {g : Nat → Nat} {F : Nat → Nat → Bool} (h : MB w b n k g F) {i j : Nat} (hi : i < k) {v : Value} {a : Option Addr} {l : List Int} (hr : RdI w a l) : RdI (w.setCell ⟨g i, j, none⟩ v) a l := by
  intro t ht
  obtain ⟨b2, off, ha, hlt, hc⟩ := hr t ht
  have hne : b2 ≠ g i := by
    rintro rfl
    obtain ⟨cur, h1, h2, h3⟩ := h.row i hi
    rw [cell_of_row _ _ _ _ _ _ h1] at hc
    have hlt2 : off + t < n := by rw [← h2]; exact (Array.getElem?_eq_some_iff.1 hc).1
    rw [h3 _ hlt2] at hc
    cases hc
  refine ⟨b2, off, ha, ?_, (cell_set_other (p := ⟨g i, j, none⟩) hne).trans hc⟩
  rw [World.size_setCell]
  exact hlt
theorem MB.keepM {w : World} {b n k : Nat} {g : Nat → Nat} {F : Nat → Nat → Bool} (h : MB w b n k g F) {i j : Nat} (hi : i < k) {v : Value} {a : Option Addr} {L : List (List Int)} (hr : RdM w a L) : RdM (w.setCell ⟨g i, j, none⟩ v) a L := by
  intro t ht
  obtain ⟨b2, off, ha, hlt, ai, ci, hc, hri⟩ := hr t ht
  have hne : b2 ≠ g i := by
    rintro rfl
    obtain ⟨cur, h1, h2, h3⟩ := h.row i hi
    rw [cell_of_row _ _ _ _ _ _ h1] at hc
    have hlt2 : off + t < n := by rw [← h2]; exact (Array.getElem?_eq_some_iff.1 hc).1
    rw [h3 _ hlt2] at hc
    cases hc
  refine ⟨b2, off, ha, ?_, ai, ci, (cell_set_other (p := ⟨g i, j, none⟩) hne).trans hc, h.keepI hi hri⟩
  rw [World.size_setCell]
  exact hlt
theorem MB.grow {w : World} {b n k : Nat} {g : Nat → Nat} {F : Nat → Nat → Bool} (h : MB w b n k g F) (hk : k < n) {r : Nat} {f : Nat → Bool} (hr : BF w r n f) (hb : b < r) (hf : ∀ i, i < k → g i ≠ r) :
    MB (w.setCell ⟨b, k, none⟩ (.slice (some ⟨r, 0, none⟩) n n)) b n (k + 1) (fun i => if i = k then r else g i) (fun i => if i = k then f else F i) := by
  obtain ⟨cur, h1, h2, h3⟩ := h.mat
  have hkeep : ∀ {x : Nat} {f : Nat → Bool}, BF w x n f → x ≠ b → BF (w.setCell ⟨b, k, none⟩ (.slice (some ⟨r, 0, none⟩) n n)) x n f := fun hx hn => hx.keep (heap_setCell_other _ _ _ _ hn)
  refine ⟨⟨_, heap_setCell_same _ _ k _ _ _ h1, by simp [h2], fun i hi => ?_⟩, fun i hi => ?_, fun i j hi hj e => ?_, fun i hi => ?_⟩
  · by_cases e : i = k
    · subst e
      simp [h2, hk]
    · try dsimp only
      rw [if_neg e, Array.getElem?_setIfInBounds_ne (fun e2 => e e2.symm)]
      exact h3 i (by omega)
  · by_cases e : i = k
    · subst e
      try dsimp only
      rw [if_pos rfl, if_pos rfl]
      exact hkeep hr (by omega)
    · try dsimp only
      rw [if_neg e, if_neg e]
      exact hkeep (h.row i (by omega)) (by have := h.nb i (by omega); omega)
  · try dsimp only at e
    by_cases e1 : i = k
    · by_cases e2 : j = k
      · omega
      · rw [if_pos e1, if_neg e2] at e
        exact absurd e.symm (hf j (by omega))
    · by_cases e2 : j = k
      · rw [if_neg e1, if_pos e2] at e
        exact absurd e (hf i (by omega))
      · rw [if_neg e1, if_neg e2] at e
        exact h.inj i j (by omega) (by omega) e
  · try dsimp only
    by_cases e1 : i = k
    · rw [if_pos e1]; exact hb
    · rw [if_neg e1]; exact h.nb i (by omega)
theorem mb_made (w : World) (n : Nat) (F : Nat → Nat → Bool) : MB (w.alloc (.cells (madeCells #[.slice none 0 0] n) 137)) w.heap.size n 0 (fun _ => 0) F :=
  ⟨⟨_, heapn _ _ _ rfl, by simp [madeCells], fun i hi => absurd hi (Nat.not_lt_zero i)⟩, fun i hi => absurd hi (Nat.not_lt_zero i), fun i _ hi => absurd hi (Nat.not_lt_zero i), fun i hi => absurd hi (Nat.not_lt_zero i)⟩
/-- A matrix tells these pairs. -/
def FM (n : Nat) (F : Nat → Nat → Bool) (l : List (Int × Int)) : Prop := ∀ a c : Nat, a < n → c < n → F a c = clB l a c
theorem pair_comm (a b : Int) : pairP a b = pairP b a := by unfold pairP; rw [Int.min_comm, Int.max_comm]
theorem pair_inj {a b c d : Int} (h : pairP a b = pairP c d) : a = c ∧ b = d ∨ a = d ∧ b = c := by
  unfold pairP at h
  injection h with h1 h2
  omega
theorem clB_ins (l : List (Int × Int)) (a b c d : Int) : clB (insP (pairP a b) l) c d = (decide (pairP c d = pairP a b) || clB l c d) := by
  unfold clB
  rw [Bool.eq_iff_iff, List.contains_iff_mem, Bool.or_eq_true, decide_eq_true_eq, List.contains_iff_mem, mem_insP]
theorem FM.note {n : Nat} {F : Nat → Nat → Bool} {l : List (Int × Int)} (h : FM n F l) {i j : Nat} (hij : i ≠ j) : FM n (updF (updF F i j true) j i true) (noteP l i j) := by
  intro a c ha hc
  have e0 : noteP l (i : Int) (j : Int) = insP (pairP i j) l := if_neg (by omega)
  rw [e0, clB_ins, ← h a c ha hc]
  unfold updF
  by_cases e : a = j ∧ c = i
  · rw [if_pos e, decide_eq_true (by rw [e.1, e.2, pair_comm])]; rfl
  · rw [if_neg e]
    by_cases e2 : a = i ∧ c = j
    · rw [if_pos e2, decide_eq_true (by rw [e2.1, e2.2])]; rfl
    · rw [if_neg e2, decide_eq_false (fun h => by rcases pair_inj h with ⟨h1, h2⟩ | ⟨h1, h2⟩ <;> omega)]; rfl
theorem note_same (l : List (Int × Int)) (a : Int) : noteP l a a = l := if_pos rfl
/-- The matrix at first: the arguments. -/
theorem clB_args {m : Nat} {a c : Nat} : clB (clArgs [] m) a c = (decide (a < m) && decide (c < m) && decide (c ≠ a)) := by
  induction m with
  | zero => unfold clArgs clB; simp
  | succ m ih =>
    have e : ∀ (k : Nat) (l : List (Int × Int)), k ≤ m → clB ((List.range k).foldl (fun l (b : Nat) => noteP l m b) l) a c = ((decide (a = m) && decide (c < k)) || (decide (c = m) && decide (a < k)) || clB l a c) := by
      intro k
      induction k with
      | zero => intro l _; simp
      | succ k ihk =>
        intro l hk
        rw [List.range_succ, List.foldl_append, List.foldl_cons, List.foldl_nil]
        have e0 : ∀ l, noteP l (m : Int) (k : Int) = insP (pairP m k) l := fun l => if_neg (by omega)
        rw [e0, clB_ins, ihk l (by omega)]
        by_cases h : pairP (a : Int) (c : Int) = pairP (m : Int) (k : Int)
        · rw [decide_eq_true h, Bool.true_or]
          rcases pair_inj h with ⟨h1, h2⟩ | ⟨h1, h2⟩
          · have g1 : a = m := by omega
            have g2 : c < k + 1 := by omega
            simp [g1, g2]
          · have g1 : c = m := by omega
            have g2 : a < k + 1 := by omega
            simp [g1, g2]
        · rw [decide_eq_false h, Bool.false_or]
          have h1 : ¬ (a = m ∧ c = k) := fun h9 => h (by rw [h9.1, h9.2])
          have h2 : ¬ (c = m ∧ a = k) := fun h9 => h (by rw [h9.1, h9.2, pair_comm])
          congr 1
          rw [Bool.eq_iff_iff]
          simp only [Bool.or_eq_true, Bool.and_eq_true, decide_eq_true_eq]
          omega
    have e1 : clB (clArgs [] (m + 1)) a c = ((decide (a = m) && decide (c < m)) || (decide (c = m) && decide (a < m)) || clB (clArgs [] m) a c) := e m (clArgs [] m) (Nat.le_refl _)
    rw [e1, ih, Bool.eq_iff_iff]
    simp only [Bool.or_eq_true, Bool.and_eq_true, decide_eq_true_eq]
    omega
/-- What clash returns. -/
def ClRet (n : Nat) (l : List (Int × Int)) (w : World) (e : Ending) (w' : World) : Prop := Below w.heap.size w w' ∧ ∃ b g F, e = .returned (.slice (some ⟨b, 0, none⟩) n n) ∧ MB w' b n n g F ∧ FM n F l ∧ w.heap.size ≤ b
/-- What clash keeps. -/
structure ClM (u : UntN) (ca : Option Addr) (cc : Nat) (ga : Option Addr) (gc : Nat) (w : World) (bA n : Nat) (g : Nat → Nat) (la : Option Addr) (Lv : List (List Int)) (F : Nat → Nat → Bool) (wr : World) : Prop where
  hb : Below w.heap.size w wr
  hu : wr.heap[w.heap.size]? = some (oU u ca cc ga gc)
  mb : MB wr bA n n g F
  rd : RdM wr la Lv
  ge : w.heap.size < bA
theorem ClM.below {u : UntN} {ca : Option Addr} {cc : Nat} {ga : Option Addr} {gc : Nat} {w : World} {bA n : Nat} {g : Nat → Nat} {la : Option Addr} {Lv : List (List Int)} {F : Nat → Nat → Bool} {wr w' : World}
    (h : ClM u ca cc ga gc w bA n g la Lv F wr) (hb : Below wr.heap.size wr w') : ClM u ca cc ga gc w bA n g la Lv F w' :=
  ⟨h.hb.step hb, keepBox hb h.hu, h.mb.below hb, h.rd.below hb, h.ge⟩
theorem ClM.put {u : UntN} {ca : Option Addr} {cc : Nat} {ga : Option Addr} {gc : Nat} {w : World} {bA n : Nat} {g : Nat → Nat} {la : Option Addr} {Lv : List (List Int)} {F : Nat → Nat → Bool} {wr : World}
    (h : ClM u ca cc ga gc w bA n g la Lv F wr) {i j : Nat} (hi : i < n) (hj : j < n) (v : Bool) : ClM u ca cc ga gc w bA n g la Lv (updF F i j v) (wr.setCell ⟨g i, j, none⟩ (.bool v)) := by
  have h1 := h.mb.nb i hi
  have h2 := h.ge
  exact ⟨h.hb.setCell (p := ⟨g i, j, none⟩) (by show w.heap.size ≤ g i; omega) _, (heap_setCell_other _ _ _ _ (by show w.heap.size ≠ g i; omega)).trans h.hu, h.mb.put hi hj v, h.mb.keepM hi h.rd, h.ge⟩

attribute [local go_sem] Oper.semAt_some
attribute [local irreducible] wpStill
theorem info137 : (Tryz.prog.info? 137).map (fun i => (i.zero, i.size, i.bytes)) = some (some (.slice none 0 0), 1, 24) := by kernel_rfl
/-- What clash keeps while it makes its rows. -/
structure ClN (u : UntN) (ca : Option Addr) (cc : Nat) (ga : Option Addr) (gc : Nat) (w : World) (bA n k : Nat) (g : Nat → Nat) (F : Nat → Nat → Bool) (wr : World) : Prop where
  hb : Below w.heap.size w wr
  hu : wr.heap[w.heap.size]? = some (oU u ca cc ga gc)
  mb : MB wr bA n k g F
  ge : w.heap.size < bA
theorem ClN.put {u : UntN} {ca : Option Addr} {cc : Nat} {ga : Option Addr} {gc : Nat} {w : World} {bA n k : Nat} {g : Nat → Nat} {F : Nat → Nat → Bool} {wr : World}
    (h : ClN u ca cc ga gc w bA n k g F wr) {i j : Nat} (hi : i < k) (hj : j < n) (v : Bool) : ClN u ca cc ga gc w bA n k g (updF F i j v) (wr.setCell ⟨g i, j, none⟩ (.bool v)) := by
  have h1 := h.mb.nb i hi
  have h2 := h.ge
  exact ⟨h.hb.setCell (p := ⟨g i, j, none⟩) (by show w.heap.size ≤ g i; omega) _, (heap_setCell_other _ _ _ _ (by show w.heap.size ≠ g i; omega)).trans h.hu, h.mb.put hi hj v, h.ge⟩
theorem ClN.row {u : UntN} {ca : Option Addr} {cc : Nat} {ga : Option Addr} {gc : Nat} {w : World} {bA n k : Nat} {g : Nat → Nat} {F : Nat → Nat → Bool} {wr : World}
    (h : ClN u ca cc ga gc w bA n k g F wr) (hk : k < n) (hg : ∀ i, i < k → g i < wr.heap.size) : ClN u ca cc ga gc w bA n (k + 1) (fun i => if i = k then wr.heap.size else g i) (fun i => if i = k then (fun _ => false) else F i)
      ((wr.alloc (.cells (madeCells #[.bool false] n) 4)).setCell ⟨bA, k, none⟩ (.slice (some ⟨wr.heap.size, 0, none⟩) n n)) := by
  have h2 := h.ge
  refine ⟨(h.hb.step (bnew _ _)).setCell (p := ⟨bA, k, none⟩) (by show w.heap.size ≤ bA; omega) _, (heap_setCell_other _ _ _ _ (by show w.heap.size ≠ bA; omega)).trans (keepBox (bnew _ _) h.hu),
    (h.mb.below (bnew _ _)).grow hk (bf_made wr n) h.mb.lt (fun i hi => by have := hg i hi; omega), h.ge⟩
theorem ClN.lts {u : UntN} {ca : Option Addr} {cc : Nat} {ga : Option Addr} {gc : Nat} {w : World} {bA n k : Nat} {g : Nat → Nat} {F : Nat → Nat → Bool} {wr : World}
    (h : ClN u ca cc ga gc w bA n k g F wr) : ∀ i, i < k → g i < wr.heap.size := fun i hi => by
  obtain ⟨cur, h1, _⟩ := h.mb.row i hi
  exact lt_of_heap h1
set_option maxRecDepth 100000 in
set_option maxHeartbeats 20000000 in
theorem clash84 (u : UntN) (ca : Option Addr) (cc : Nat) (ga : Option Addr) (gc : Nat) (w : World) (hm : UnM w u ca cc ga gc) (hw : writB u = true) :
    Calls Tryz.prog 84 #[vU u ca cc ga gc] w (ClRet u.slots.toNat (clashL u) w) := by
  obtain ⟨hn0, hn6, -, -⟩ := plain_leads (writ_plain hw)
  obtain ⟨ha0, ha1, hs1, hs2⟩ := writ_args hw
  have HM := hid hm
  have HLV := hid (fun w' (hb : Below w.heap.size w w') => live58 u ca cc ga gc w' (hm.below hb) (writ_plain hw))
  have HLL : Hid ((liveL u).length = u.code.length) := hid (live_good u).len
  have HRW : Hid (∀ r ∈ liveL u, r.length ≤ 10000) := hid (fun r hr => by
    obtain ⟨t, ht, rfl⟩ := List.getElem_of_mem hr
    have h1 := nodup_sub_len (sorted_nodup ((live_good u).so t)) (fun x hx => (live_good u).un t x hx)
    have h2 := univ_len u
    rw [getD_in ht] at h1
    omega)
  have HNX := hid (fun (t : Nat) (ht : t < u.code.length) p (hp : p ∈ nextsR (u.code.getD t ins0) t) => (show 0 ≤ p ∧ p < (liveL u).length from by rw [HLL.out]; exact bySelf_in (writ_plain hw) ht p ((nexts_mem hw ht p).1 hp)))
  have HBH := hid (fun (t : Nat) (ht : t < u.code.length) (la : Option Addr) (lc : Nat) w' (hb : Below w.heap.size w w') (hl : RdM w' la (liveL u)) => behind81 u (liveL u) t ht hn6 ca cc ga gc la lc w' (hm.rc.below hb) hl HRW.out (HNX.out t ht))
  have HBL := hid (fun t => (show (behindR u (liveL u) t).length ≤ 20000 from by
    have h1 := behTo_len (liveL u) HRW.out (nextsR (u.code.getD t ins0) t)
    have h2 := nextsR_len (u.code.getD t ins0) t
    have h3 : behindR u (liveL u) t = behTo (liveL u) (nextsR (u.code.getD t ins0) t) := rfl
    rw [h3]
    omega))
  have HBI := hid (fun (t : Nat) (ht : t < u.code.length) x (hx : x ∈ behindR u (liveL u) t) => (show 0 ≤ x ∧ x < u.slots from by
    rw [behindR_mem hw ht, needL_mem] at hx
    obtain ⟨p, _, hp⟩ := hx
    exact live_in hw _ x hp))
  have HL0 := hid (live_in hw 0)
  have HWI := hid (fun (t : Nat) (ht : t < u.code.length) => writ_writeIn hw ht)
  have HFIN := hid (fun F (h : FM u.slots.toNat F (clToR u (liveL u) u.code.length)) => (show FM u.slots.toNat F (clashL u) from fun a c ha hc => (h a c ha hc).trans (clR_B hw a c)))
  clear hm hw
  obtain ⟨n, hn⟩ : ∃ n : Nat, u.slots.toNat = n := ⟨_, rfl⟩
  rw [hn] at HFIN
  rw [hn]
  have hsn : u.slots = (n : Int) := by omega
  obtain ⟨m, hmm⟩ : ∃ m : Nat, u.args = (m : Int) := ⟨u.args.toNat, by omega⟩
  have HC0 : Hid (clToR u (liveL u) 0 = clLive (clArgs [] m) ((liveL u).getD 0 []) m) := hid (by show clLive (clArgs [] u.args.toNat) ((liveL u).getD 0 []) u.args.toNat = _; rw [hmm, Int.toNat_natCast])
  have HSN := hid hsn
  have hn200 : n ≤ 200 := by omega
  have hmn : m ≤ n := by omega
  have hn1 : 1 ≤ n := by omega
  have hmk := fun w => run_make_row' (P := Tryz.prog) 135 137 (.slice none 0 0) 24 (by kernel_rfl) info137 rfl .i64 .i64 n (by omega) (by omega) w
  have hmb := fun w => run_make_row' (P := Tryz.prog) 137 4 (.bool false) 1 Tryz.underlying137 info4 rfl .i64 .i64 n (by omega) (by omega) w
  simp only [← hsn] at hmk hmb
  have HMD := hid (fun w => mb_made w n (fun _ _ => false))
  obtain ⟨M, hM⟩ : ∃ M, M = madeCells #[.slice none 0 0] n := ⟨_, rfl⟩
  rw [← hM] at HMD
  simp only [← hM] at hmk
  clear hM
  have HROW := hid (fun (k : Nat) (g : Nat → Nat) (F : Nat → Nat → Bool) (wr : World) (bA : Nat) (h : ClN u ca cc ga gc w bA n k g F wr) (hk : k < n) => h.row hk h.lts)
  obtain ⟨M2, hM2⟩ : ∃ M, M = madeCells #[.bool false] n := ⟨_, rfl⟩
  rw [← hM2] at HROW
  simp only [← hM2] at hmb
  clear hM2
  have HX1 := hid (heapn w (oU u ca cc ga gc) _ rfl)
  have HB := hid (bnew w (oU u ca cc ga gc))
  have HMM := hid hmm
  clear hn hsn hmm ha0 ha1 hs1 hs2
  go_enter Tryz.func84, Tryz.ntmps84
  go_upto_region 1 with fail
  obtain ⟨w1, hw1⟩ : ∃ w1, w1 = w.alloc (oU u ca cc ga gc) := ⟨_, rfl⟩
  rw [← hw1] at HX1 HB
  rw [← hw1]
  clear hw1
  have hlt := lt_of_heap HX1.out
  have HI0 : Hid (ClN u ca cc ga gc w w1.heap.size n 0 (fun _ => 0) (fun _ _ => false) (w1.alloc (.cells M 137))) := hid ⟨HB.out.step (bnew _ _), keepBox (bnew _ _) HX1.out, HMD.out w1, hlt⟩
  obtain ⟨k0, k1, k2, k3, k4, k5, k6⟩ := box7 HX1.out
  go_upto_region 2 with fail
  obtain ⟨bA, hbA⟩ : ∃ b, b = w1.heap.size := ⟨_, rfl⟩
  obtain ⟨wa, hwa⟩ : ∃ wa, wa = w1.alloc (.cells M 137) := ⟨_, rfl⟩
  rw [← hbA, ← hwa] at HI0
  rw [← hbA, ← hwa]
  clear hwa hbA hlt k0 k1 k2 k3 k4 k5 k6 hmk HMD HB HX1
  go_wp2
  go_loopg [4] n (fun gh s4 wr => ∃ (k : Nat) (g : Nat → Nat) (F : Nat → Nat → Bool), k ≤ n ∧ gh = n - k ∧ s4 = .int .i64 k ∧ Hid (ClN u ca cc ga gc w bA n k g F wr) ∧ Hid (∀ a c : Nat, a < k → c < n → F a c = (decide (a < m) && decide (c < m) && decide (c ≠ a))))
  case atStart => exact ⟨0, _, _, Nat.zero_le _, rfl, rfl, HI0, hid (fun a c ha => absurd ha (Nat.not_lt_zero a))⟩
  case round =>
    obtain ⟨k, g, F, hk, rfl, rfl, HK, HF⟩ := hrel
    obtain ⟨k0, k1, k2, k3, k4, k5, k6⟩ := box7 HK.out.hu
    by_cases hkn : k < n
    · have nk : (k : Int) < u.slots := by have := HSN.out; omega
      have nkn : (k : Int) < (n : Int) := by omega
      obtain ⟨old, hold⟩ := HK.out.mb.old hkn
      have hbA := HK.out.mb.lt
      have HN := hid (HROW.out _ _ _ _ _ HK.out hkn)
      rw [World.setCell_alloc_past _ _ _ _ hbA] at HN
      have hz := HK.out.mb.bz k
      have hold2 := cell_later (bnew wr (.cells M2 4)) hold
      have hz2 : (wr.alloc (.cells M2 4)).frozen? ⟨bA, k, none⟩ = false := (HK.out.mb.below (bnew wr (.cells M2 4))).bz k
      go_upto_region 6 with fail
      obtain ⟨w5, hw5⟩ : ∃ w5, w5 = (wr.setCell ⟨bA, k, none⟩ (.slice (some ⟨wr.heap.size, 0, none⟩) n n)).alloc (.cells M2 4) := ⟨_, rfl⟩
      have HF2 : Hid (∀ a c : Nat, a < k → c < n → (fun i => if i = k then (fun _ => false) else F i) a c = (decide (a < m) && decide (c < m) && decide (c ≠ a))) := hid (fun a c ha hc => by
        show (if a = k then (fun _ => false) else F a) c = _
        rw [if_neg (by omega)]
        exact HF.out a c ha hc)
      have HF3 : Hid (∀ c : Nat, (fun i => if i = k then (fun _ => false) else F i) k c = false) := hid (fun c => by
        show (if k = k then (fun _ => false) else F k) c = _
        rw [if_pos rfl])
      rw [← hw5] at HN
      rw [← hw5]
      clear hw5 hold hz hold2 hz2 hbA k0 k1 k2 k3 k4 k5 k6
      generalize (fun i => if i = k then wr.heap.size else g i) = g2 at *
      generalize (fun i => if i = k then (fun _ => false) else F i) = F2 at *
      clear HK HF
      go_wp2
      go_loopg [5] m (fun gh s5 wr => ∃ (c : Nat) (G : Nat → Nat → Bool), c ≤ m ∧ (k < m ∨ c = 0) ∧ gh = m - c ∧ s5 = .int .i64 c ∧ Hid (ClN u ca cc ga gc w bA n (k + 1) g2 G wr) ∧ Hid ((∀ a c : Nat, a < k → c < n → G a c = (decide (a < m) && decide (c < m) && decide (c ≠ a))) ∧ ∀ c', c' < n → G k c' = (decide (k < m) && decide (c' < c) && decide (c' ≠ k))))
      case atStart => exact ⟨0, F2, Nat.zero_le _, .inr rfl, rfl, rfl, HN, hid ⟨HF2.out, fun c' _ => by rw [HF3.out]; simp⟩⟩
      case round =>
        clear HN HF2 HF3
        obtain ⟨c, G, hc, hkc, rfl, rfl, HG, HGF⟩ := hrel
        obtain ⟨k0, k1, k2, k3, k4, k5, k6⟩ := box7 HG.out.hu
        have HEX : Hid ((c = m ∨ ¬ k < m) → ∀ a c' : Nat, a < k + 1 → c' < n → G a c' = (decide (a < m) && decide (c' < m) && decide (c' ≠ a))) := hid (fun h a c' ha hc' => by
          by_cases e : a = k
          · subst e
            rw [HGF.out.2 c' hc']
            rcases h with h | h
            · rw [h]
            · rw [decide_eq_false h]; rfl
          · exact HGF.out.1 a c' (by omega) hc')
        by_cases hcm : c < m
        · have nc : (c : Int) < u.args := by have := HMM.out; omega
          by_cases hkm : k < m
          · have nkm : (k : Int) < u.args := by have := HMM.out; omega
            have ncn : (c : Int) < (n : Int) := by omega
            have hcn : c < n := by omega
            have q0 := HG.out.mb.cellAt (i := k) (by omega)
            have q1 := HG.out.mb.at (i := k) (j := c) (by omega) hcn
            have q2 := HG.out.mb.rz (i := k) (by omega) c
            have q3 := (HG.out.lts k (by omega))
            have HNX2 := hid (HG.out.put (i := k) (j := c) (by omega) hcn ((c : Int) != (k : Int)))
            have HGN : Hid ((∀ a c' : Nat, a < k → c' < n → updF G k c ((c : Int) != (k : Int)) a c' = (decide (a < m) && decide (c' < m) && decide (c' ≠ a))) ∧ ∀ c', c' < n → updF G k c ((c : Int) != (k : Int)) k c' = (decide (k < m) && decide (c' < c + 1) && decide (c' ≠ k))) := hid ⟨fun a c' ha hc' => by
                unfold updF
                rw [if_neg (by omega)]
                exact HGF.out.1 a c' ha hc', fun c' hc' => by
                unfold updF
                by_cases e : c' = c
                · subst e
                  rw [if_pos ⟨rfl, rfl⟩, decide_eq_true hkm, decide_eq_true (by omega : c' < c' + 1)]
                  by_cases e2 : c' = k
                  · subst e2; simp
                  · rw [decide_eq_true e2, bne_iff_ne.2 (by omega)]; rfl
                · rw [if_neg (by omega), HGF.out.2 c' hc']
                  congr 2
                  rw [Bool.eq_iff_iff, decide_eq_true_eq, decide_eq_true_eq]
                  omega⟩
            clear HEX
            go_wp2
            go_roundg (m - (c + 1))
            case measure => omega
            case rel => exact ⟨c + 1, _, by omega, .inl hkm, rfl, by go_num, HNX2, HGN⟩
          · have nkm : ¬ (k : Int) < u.args := by have := HMM.out; omega
            have HE := hid (HEX.out (.inr hkm))
            clear HEX
            go_wp2
            go_roundg (n - (k + 1))
            case measure => omega
            case rel => exact ⟨k + 1, g2, G, by omega, rfl, by go_num, HG, HE⟩
        · have nc : ¬ (c : Int) < u.args := by have := HMM.out; omega
          have HE := hid (HEX.out (.inl (by omega)))
          clear HEX
          go_wp2
          go_roundg (n - (k + 1))
          case measure => omega
          case rel => exact ⟨k + 1, g2, G, by omega, rfl, by go_num, HG, HE⟩
    · obtain rfl : k = n := by omega
      have nk : ¬ (k : Int) < u.slots := by have := HSN.out; omega
      have HFM : Hid (FM k F (clArgs [] m)) := hid (fun a c ha hc => (HF.out a c ha hc).trans clB_args.symm)
      clear HF
      go_upto_region 11 with (go_at_call 58; (with_reducible refine (HLV.out _ HK.out.hb).mono ?_); rintro e w4 ⟨hb4, la, lc, rfl, hl4⟩; have HCM := hid (show ClM u ca cc ga gc w bA k g la (liveL u) F w4 from ⟨HK.out.hb.step hb4, keepBox hb4 HK.out.hu, HK.out.mb.below hb4, hl4, HK.out.ge⟩); clear hb4 hl4)
      rw [HLL.out]
      clear k0 k1 k2 k3 k4 k5 k6 nk HLV HK HROW hmb HRW hkn hk
      obtain ⟨lb, lo, hla, -, -, -, -, -⟩ := RdM.row HCM.out.rd (i := 0) (by rw [HLL.out]; exact hn0)
      subst hla
      have hn0i : (0 : Int) < (u.code.length : Int) := by omega
      have HR0 := hid (fun (wx : World) (h : RdM wx (some ⟨lb, lo, none⟩) (liveL u)) => (show ∃ ai ci, wx.cell? ⟨lb, lo, none⟩ = some (.slice ai ((liveL u).getD 0 []).length ci) ∧ RdI wx ai ((liveL u).getD 0 []) from by
        obtain ⟨b1, o1, e1, _, ai, ci, h1, h2⟩ := RdM.row h (i := 0) (by rw [HLL.out]; exact hn0)
        cases e1
        exact ⟨ai, ci, h1, h2⟩))
      have HS0 : Hid (((liveL u).getD 0 []).length ≤ 1200) := hid (by
        have h1 := nodup_sub_len (sorted_nodup ((live_good u).so 0)) (fun x hx => (live_good u).un 0 x hx)
        have h2 := univ_len u
        omega)
      have HCL : Hid (∀ i, clLive (clArgs [] m) ((liveL u).getD 0 []) (i + 1) = ((liveL u).getD 0 []).foldl (fun l s => noteP l (i : Int) s) (clLive (clArgs [] m) ((liveL u).getD 0 []) i)) := hid (fun _ => rfl)
      have HC00 : Hid (clLive (clArgs [] m) ((liveL u).getD 0 []) 0 = clArgs [] m) := hid rfl
      generalize (liveL u).getD 0 [] = S at *
      have hs0 := HS0.out
      go_wp2
      go_loopg [7] m (fun gh s7 wr => ∃ (i : Nat) (F : Nat → Nat → Bool), i ≤ m ∧ gh = m - i ∧ s7 = .int .i64 i ∧ Hid (ClM u ca cc ga gc w bA k g (some ⟨lb, lo, none⟩) (liveL u) F wr) ∧ Hid (FM k F (clLive (clArgs [] m) S i)))
      case atStart => exact ⟨0, F, Nat.zero_le _, rfl, rfl, HCM, hid (by rw [HC00.out]; exact HFM.out)⟩
      case round =>
        clear HCM HFM HC00
        obtain ⟨i, F, hi, rfl, rfl, HM2, HF⟩ := hrel
        obtain ⟨k0, k1, k2, k3, k4, k5, k6⟩ := box7 HM2.out.hu
        by_cases him : i < m
        · have ni : (i : Int) < u.args := by have := HMM.out; omega
          have hin : i < k := by omega
          have nik : (i : Int) < (k : Int) := by omega
          have HCS := hid (HCL.out i)
          generalize clLive (clArgs [] m) S i = L at *
          go_wp2
          go_loopg [8] S.length (fun gh s8 wr => ∃ (j : Nat) (G : Nat → Nat → Bool), j ≤ S.length ∧ gh = S.length - j ∧ s8 = .int .i64 j ∧ Hid (ClM u ca cc ga gc w bA k g (some ⟨lb, lo, none⟩) (liveL u) G wr) ∧ Hid (FM k G ((S.take j).foldl (fun l s => noteP l (i : Int) s) L)))
          case atStart => exact ⟨0, F, Nat.zero_le _, rfl, rfl, HM2, HF⟩
          case round =>
            clear HM2 HF k0 k1 k2 k3 k4 k5 k6
            obtain ⟨j, G, hj, rfl, rfl, HM2, HF⟩ := hrel
            obtain ⟨ra, rc, hc0, hr0⟩ := HR0.out _ HM2.out.rd
            by_cases hjl : j < S.length
            · have nj : (j : Int) < (S.length : Int) := by omega
              obtain ⟨rb, ro, hra, hltr, hx⟩ := hr0 j hjl
              subst hra
              have HT : Hid (S.take (j + 1) = S.take j ++ [S[j]]) := hid (take_last hjl)
              have HSN2 := hid (foldl_snoc1 (fun l s => noteP l (i : Int) s) L (S.take j) S[j])
              rw [← HT.out] at HSN2
              have hxb := HL0.out S[j] (List.getElem_mem hjl)
              have HXE := hid (show ∀ z : Int, z = S[j] → S[j] = z from fun z h => h.symm)
              obtain ⟨x, hx0⟩ : ∃ x, x = S[j] := ⟨_, rfl⟩
              rw [← hx0] at hx hxb HSN2 HT
              replace HXE := hid (HXE.out x hx0)
              clear hx0
              obtain ⟨y, rfl⟩ : ∃ y : Nat, x = y := ⟨x.toNat, by omega⟩
              have hyn : y < k := by have := HSN.out; omega
              have nyk : (y : Int) < (k : Int) := by omega
              clear hxb
              by_cases hyi : y = i
              · have nq : ((y : Int) != (i : Int)) = false := by simp; omega
                have HF2 : Hid (FM k G ((S.take (j + 1)).foldl (fun l s => noteP l (i : Int) s) L)) := hid (by rw [HSN2.out]; show FM k G (noteP _ (i : Int) (y : Int)); rw [hyi, note_same]; exact HF.out)
                clear hyi
                go_wp2
                go_roundg (S.length - (j + 1))
                case measure => omega
                case rel => exact ⟨j + 1, G, by omega, rfl, by go_num, HM2, HF2⟩
              · have nq : ((y : Int) != (i : Int)) = true := by simp; omega
                have HF2 : Hid (FM k (updF (updF G i y true) y i true) ((S.take (j + 1)).foldl (fun l s => noteP l (i : Int) s) L)) := hid (by rw [HSN2.out]; exact HF.out.note (fun e => hyi e.symm))
                clear hyi
                go_upto_region 18 with fail
                have a0 := HM2.out.mb.cellAt hin
                have HMd := hid (HM2.out.below (bdrew wr))
                go_still_tail 11, (by kernel_rfl)
                repeat still_step
                change wpList _ _ _ _ _ wr.drew
                obtain ⟨wd, hwd⟩ : ∃ wd, wd = wr.drew := ⟨_, rfl⟩
                rw [← hwd] at HMd ⊢
                clear hwd HM2 hc0 hx a0
                have a1 := HMd.out.mb.at hin hyn
                have a2 := HMd.out.mb.rz hin y
                have HMp := hid (HMd.out.put hin hyn true)
                go_upto_region 19 with fail
                obtain ⟨w8, hw8⟩ : ∃ W, W = wd.setCell ⟨g i, y, none⟩ (.bool true) := ⟨_, rfl⟩
                rw [← hw8] at HMp ⊢
                clear hw8 a1 a2 HMd
                obtain ⟨ra2, rc2, hc1, hr1⟩ := HR0.out _ HMp.out.rd
                obtain ⟨rb2, ro2, hra2, -, hx2⟩ := hr1 j hjl
                subst hra2
                rw [HXE.out] at hx2
                have a3 := HMp.out.mb.cellAt hyn
                have a4 := HMp.out.mb.at hyn hin
                have a5 := HMp.out.mb.rz hyn i
                have HMq := hid (HMp.out.put hyn hin true)
                go_wp2
                go_roundg (S.length - (j + 1))
                case measure => omega
                case rel => exact ⟨j + 1, _, by omega, rfl, by go_num, HMq, HF2⟩
            · obtain rfl : j = S.length := by omega
              have nj : ¬ (S.length : Int) < (S.length : Int) := by omega
              rw [List.take_length, ← HCS.out] at HF
              go_wp2
              go_roundg (m - (i + 1))
              case measure => omega
              case rel => exact ⟨i + 1, G, by omega, rfl, by go_num, HM2, HF⟩
        · obtain rfl : i = m := by omega
          have ni : ¬ (i : Int) < u.args := by have := HMM.out; omega
          rw [← HC0.out] at HF
          go_wp2
          clear ni hi
          go_loopg [9] u.code.length (fun gh s9 wr => ∃ (t : Nat) (F : Nat → Nat → Bool), t ≤ u.code.length ∧ gh = u.code.length - t ∧ s9 = .int .i64 t ∧ Hid (ClM u ca cc ga gc w bA k g (some ⟨lb, lo, none⟩) (liveL u) F wr) ∧ Hid (FM k F (clToR u (liveL u) t)))
          case atStart => exact ⟨0, F, Nat.zero_le _, rfl, rfl, HM2, HF⟩
          case round =>
            clear HM2 HF k0 k1 k2 k3 k4 k5 k6
            obtain ⟨t, F, ht, rfl, rfl, HM2, HF⟩ := hrel
            obtain ⟨k0, k1, k2, k3, k4, k5, k6⟩ := box7 HM2.out.hu
            by_cases hlt : t < u.code.length
            · have nt : (t : Int) < (u.code.length : Int) := by omega
              obtain ⟨b2, off, hca, hlt2, c0, c1, c2, c3⟩ := (HM.out.rc.below HM2.out.hb) t hlt
              subst hca
              have HBT := hid (fun wx (hb : Below wr.heap.size wr wx) => HBH.out t hlt (some ⟨lb, lo, none⟩) lc wx (HM2.out.hb.step hb) (HM2.out.rd.below hb))
              rw [HLL.out] at HBT
              have HWR := hid (writes82 u.code[t])
              have HWB := hid (HWI.out t hlt)
              have HBB := hid (HBI.out t hlt)
              have HBLT := hid (HBL.out t)
              have HCI : Hid (clToR u (liveL u) (t + 1) = if 0 ≤ writesI u.code[t] then (behindR u (liveL u) t).foldl (fun l s => noteP l (writesI u.code[t]) s) (clToR u (liveL u) t) else clToR u (liveL u) t) := hid (by
                show clInsR u (liveL u) (clToR u (liveL u) t) t = _
                unfold clInsR
                rw [getD_in hlt])
              generalize u.code[t] = x at *
              generalize writesI x = wi at *
              generalize behindR u (liveL u) t = BR at *
              go_upto_region 25 with (first
                | (go_at_call 82; (with_reducible refine (HWR.out _).mono ?_); rintro e w5 ⟨rfl, hb5⟩; have HB5 := hid hb5; obtain ⟨l0, l1, l2, l3, l4, l5, l6⟩ := box7 (keepBox hb5 HM2.out.hu); clear hb5)
                | (go_at_call 81; (with_reducible refine (HBT.out _ HB5.out).mono ?_); rintro e w6 ⟨hb6, v6, rfl, hv6⟩; have HM6 := hid ((HM2.out.below HB5.out).below hb6); have HV6 := hid hv6; clear hb6 hv6))
              clear k0 k1 k2 k3 k4 k5 k6 l0 l1 l2 l3 l4 l5 l6 c0 c1 c2 c3 hlt2 HM2 HB5 HBT HWR
              obtain ⟨pa, pc, rfl, hpr, -, -⟩ := HV6.out.ex
              have HPR := hid hpr
              have hbl := HBLT.out
              clear hpr HV6
              generalize clToR u (liveL u) t = LT at *
              go_wp2
              go_loopg [12] BR.length (fun gh s12 wr => ∃ (j : Nat) (G : Nat → Nat → Bool), j ≤ BR.length ∧ (0 ≤ wi ∨ j = 0) ∧ gh = BR.length - j ∧ s12 = .int .i64 j ∧ Hid (ClM u (some ⟨b2, off, none⟩) cc ga gc w bA k g (some ⟨lb, lo, none⟩) (liveL u) G wr ∧ RdI wr pa BR) ∧ Hid (FM k G ((BR.take j).foldl (fun l s => noteP l wi s) LT)))
              case atStart => exact ⟨0, F, Nat.zero_le _, .inr rfl, rfl, rfl, hid ⟨HM6.out, HPR.out⟩, HF⟩
              case round =>
                clear HM6 HPR HF
                obtain ⟨j, G, hj, hjw, rfl, rfl, HM2, HF⟩ := hrel
                have HPR := hid HM2.out.2
                replace HM2 := hid HM2.out.1
                by_cases hjl : j < BR.length
                · have nj : (j : Int) < (BR.length : Int) := by omega
                  by_cases hwi : 0 ≤ wi
                  · obtain ⟨rb, ro, hra, -, hx⟩ := HPR.out j hjl
                    subst hra
                    have HT : Hid (BR.take (j + 1) = BR.take j ++ [BR[j]]) := hid (take_last hjl)
                    have HSN2 := hid (foldl_snoc1 (fun l s => noteP l wi s) LT (BR.take j) BR[j])
                    rw [← HT.out] at HSN2
                    have hxb := HBB.out BR[j] (List.getElem_mem hjl)
                    have HRX := hid (fun (wx : World) (h : RdI wx (some ⟨rb, ro, none⟩) BR) => (show wx.cell? ⟨rb, ro + j, none⟩ = some (.int .i64 BR[j]) from by
                      obtain ⟨b9, o9, e9, _, h9⟩ := h j hjl
                      cases e9
                      exact h9))
                    generalize BR[j] = x at *
                    obtain ⟨y, rfl⟩ : ∃ y : Nat, x = y := ⟨x.toNat, by omega⟩
                    obtain ⟨i, rfl⟩ : ∃ i : Nat, wi = i := ⟨wi.toNat, by omega⟩
                    have hyn : y < k := by have := HSN.out; omega
                    have hin : i < k := by have := HWB.out; have := HSN.out; omega
                    have nyk : (y : Int) < (k : Int) := by omega
                    have nik : (i : Int) < (k : Int) := by omega
                    clear hxb
                    by_cases hyi : y = i
                    · have nq : ((y : Int) != (i : Int)) = false := by simp; omega
                      have HF2 : Hid (FM k G ((BR.take (j + 1)).foldl (fun l s => noteP l (i : Int) s) LT)) := hid (by rw [HSN2.out]; show FM k G (noteP _ (i : Int) (y : Int)); rw [hyi, note_same]; exact HF.out)
                      clear hyi
                      go_wp2
                      go_roundg (BR.length - (j + 1))
                      case measure => omega
                      case rel => exact ⟨j + 1, G, by omega, .inl hwi, rfl, by go_num, hid ⟨HM2.out, HPR.out⟩, HF2⟩
                    · have nq : ((y : Int) != (i : Int)) = true := by simp; omega
                      have HF2 : Hid (FM k (updF (updF G i y true) y i true) ((BR.take (j + 1)).foldl (fun l s => noteP l (i : Int) s) LT)) := hid (by rw [HSN2.out]; exact HF.out.note (fun e => hyi e.symm))
                      clear hyi
                      go_upto_region 29 with fail
                      have a0 := HM2.out.mb.cellAt hin
                      have HMd := hid (HM2.out.below (bdrew wr))
                      have HPd := hid (HPR.out.below (bdrew wr))
                      go_still_tail 9, (by kernel_rfl)
                      repeat still_step
                      change wpList _ _ _ _ _ wr.drew
                      obtain ⟨wd, hwd⟩ : ∃ wd, wd = wr.drew := ⟨_, rfl⟩
                      rw [← hwd] at HMd HPd ⊢
                      clear hwd HM2 HPR hx a0
                      have a1 := HMd.out.mb.at hin hyn
                      have a2 := HMd.out.mb.rz hin y
                      have HMp := hid (HMd.out.put hin hyn true)
                      have HPp := hid (HMd.out.mb.keepI (j := y) (v := .bool true) hin HPd.out)
                      go_upto_region 30 with fail
                      obtain ⟨w8, hw8⟩ : ∃ W, W = wd.setCell ⟨g i, y, none⟩ (.bool true) := ⟨_, rfl⟩
                      rw [← hw8] at HMp HPp ⊢
                      clear hw8 a1 a2 HMd HPd
                      have hx2 := HRX.out _ HPp.out
                      have a3 := HMp.out.mb.cellAt hyn
                      have a4 := HMp.out.mb.at hyn hin
                      have a5 := HMp.out.mb.rz hyn i
                      have HMq := hid (HMp.out.put hyn hin true)
                      have HPq := hid (HMp.out.mb.keepI (j := i) (v := .bool true) hyn HPp.out)
                      go_wp2
                      go_roundg (BR.length - (j + 1))
                      case measure => omega
                      case rel => exact ⟨j + 1, _, by omega, .inl hwi, rfl, by go_num, hid ⟨HMq.out, HPq.out⟩, HF2⟩
                  · obtain rfl : j = 0 := by omega
                    have HF2 : Hid (FM k G (clToR u (liveL u) (t + 1))) := hid (by rw [HCI.out, if_neg hwi]; exact HF.out)
                    go_wp2
                    go_roundg (u.code.length - (t + 1))
                    case measure => omega
                    case rel => exact ⟨t + 1, G, by omega, rfl, by go_num, HM2, HF2⟩
                · have nj : ¬ (j : Int) < (BR.length : Int) := by omega
                  have HF2 : Hid (FM k G (clToR u (liveL u) (t + 1))) := hid (by
                    rw [HCI.out]
                    by_cases hwi : 0 ≤ wi
                    · rw [if_pos hwi]
                      have h := HF.out
                      rw [show j = BR.length by omega, List.take_length] at h
                      exact h
                    · rw [if_neg hwi]
                      have h := HF.out
                      rw [show j = 0 by omega] at h
                      exact h)
                  go_wp2
                  go_roundg (u.code.length - (t + 1))
                  case measure => omega
                  case rel => exact ⟨t + 1, G, by omega, rfl, by go_num, HM2, HF2⟩
            · obtain rfl : t = u.code.length := by omega
              have nt : ¬ (u.code.length : Int) < (u.code.length : Int) := by omega
              have HFF := hid (HFIN.out F HF.out)
              have HGE := HM2.out.ge
              go_wp2
              go_ret
              exact ⟨HM2.out.hb, bA, g, F, rfl, HM2.out.mb, HFF.out, by omega⟩
end Go.Proofs.YtgalekifgnecjaaGreat
