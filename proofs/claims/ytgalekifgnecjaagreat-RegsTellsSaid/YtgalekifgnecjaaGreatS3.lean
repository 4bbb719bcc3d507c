/- A set of pairs of numbers in memory. Clashes and colours, plainly. clash and the note of clashes, of package regs. -/
import Derived.Test.YtgalekifgnecjaaGreatS1
namespace Go.Proofs.YtgalekifgnecjaaGreat
open Go.RowKit

attribute [local go_sem] Oper.semAt_some
theorem ltP_iff {x y : Int × Int} : ltP x y = true ↔ x.1 < y.1 ∨ (x.1 = y.1 ∧ x.2 < y.2) := by simp [ltP]
abbrev SortedP (l : List (Int × Int)) : Prop := l.Pairwise fun x y => ltP x y = true
theorem ltP_irr (x : Int × Int) : ¬ ltP x x = true := by rw [ltP_iff]; omega
theorem ltP_trans {x y z : Int × Int} (h : ltP x y = true) (h2 : ltP y z = true) : ltP x z = true := by rw [ltP_iff] at *; omega
theorem ltP_total {x y : Int × Int} (h : ¬ ltP x y = true) (h2 : x ≠ y) : ltP y x = true := by
  rw [ltP_iff] at *
  have : x.1 ≠ y.1 ∨ x.2 ≠ y.2 := by
    refine Decidable.byContradiction fun hc => h2 ?_
    rw [not_or, Decidable.not_not, Decidable.not_not] at hc
    exact Prod.ext hc.1 hc.2
  omega
theorem mem_insP {a x : Int × Int} : ∀ {l : List (Int × Int)}, x ∈ insP a l ↔ x = a ∨ x ∈ l
  | [] => by simp [insP]
  | y :: l => by
    unfold insP
    split
    · simp
    · split
      · rename_i h
        subst h
        simp
      · simp only [List.mem_cons, mem_insP (l := l)]
        constructor
        · rintro (h | h | h)
          · exact .inr (.inl h)
          · exact .inl h
          · exact .inr (.inr h)
        · rintro (h | h | h)
          · exact .inr (.inl h)
          · exact .inl h
          · exact .inr (.inr h)
theorem sorted_insP {a : Int × Int} : ∀ {l : List (Int × Int)}, SortedP l → SortedP (insP a l)
  | [], _ => by simp [insP, SortedP]
  | y :: l, h => by
    obtain ⟨h1, h2⟩ := List.pairwise_cons.1 h
    unfold insP
    split
    · rename_i hlt
      refine List.pairwise_cons.2 ⟨fun z hz => ?_, h⟩
      rcases List.mem_cons.1 hz with rfl | hz
      · exact hlt
      · exact ltP_trans hlt (h1 z hz)
    · split
      · exact h
      · rename_i hn hne
        refine List.pairwise_cons.2 ⟨fun z hz => ?_, sorted_insP h2⟩
        rcases mem_insP.1 hz with rfl | hz
        · exact ltP_total hn hne
        · exact h1 z hz
theorem sortedP_ext : ∀ {l m : List (Int × Int)}, SortedP l → SortedP m → (∀ x, x ∈ l ↔ x ∈ m) → l = m
  | [], [], _, _, _ => rfl
  | [], y :: m, _, _, h => absurd ((h y).2 (by simp)) (by simp)
  | x :: l, [], _, _, h => absurd ((h x).1 (by simp)) (by simp)
  | x :: l, y :: m, hl, hm, h => by
    obtain ⟨h1, h2⟩ := List.pairwise_cons.1 hl
    obtain ⟨h3, h4⟩ := List.pairwise_cons.1 hm
    have hxy : x = y := by
      rcases List.mem_cons.1 ((h x).1 (by simp)) with e | e
      · exact e
      · rcases List.mem_cons.1 ((h y).2 (by simp)) with e' | e'
        · exact e'.symm
        · exact absurd (ltP_trans (h1 y e') (h3 x e)) (ltP_irr x)
    subst hxy
    congr 1
    refine sortedP_ext h2 h4 fun z => ⟨fun hz => ?_, fun hz => ?_⟩
    · rcases List.mem_cons.1 ((h z).1 (by simp [hz])) with e | e
      · subst e
        exact absurd (h1 z hz) (ltP_irr z)
      · exact e
    · rcases List.mem_cons.1 ((h z).2 (by simp [hz])) with e | e
      · subst e
        exact absurd (h3 z hz) (ltP_irr z)
      · exact e
theorem sortedP_nodup {l : List (Int × Int)} (h : SortedP l) : l.Nodup := h.imp fun hlt e => by subst e; exact ltP_irr _ hlt
theorem insP_perm {a : Int × Int} : ∀ {l : List (Int × Int)}, SortedP l → (insP a l).Perm (a :: l.filter fun p => !decide (p = a))
  | [], _ => by simp [insP]
  | y :: l, h => by
    obtain ⟨h1, h2⟩ := List.pairwise_cons.1 h
    unfold insP
    split
    · rename_i hlt
      have : ((y :: l).filter fun p => !decide (p = a)) = y :: l := List.filter_eq_self.2 fun z hz => by
        have : z ≠ a := by
          rintro rfl
          rcases List.mem_cons.1 hz with rfl | hz
          · exact ltP_irr _ hlt
          · exact ltP_irr _ (ltP_trans hlt (h1 _ hz))
        simp [this]
      rw [this]
    · split
      · rename_i heq
        subst heq
        have : ((a :: l).filter fun p => !decide (p = a)) = l := by
          rw [List.filter_cons]
          simp only [decide_true, Bool.not_true, Bool.false_eq_true, if_false]
          exact List.filter_eq_self.2 fun z hz => by
            have : z ≠ a := by
              rintro rfl
              exact ltP_irr _ (h1 _ hz)
            simp [this]
        rw [this]
      · rename_i hn hne
        have hy : (!decide (y = a)) = true := by
          simp only [Bool.not_eq_true', decide_eq_false_iff_not]
          exact fun e => hne e.symm
        rw [List.filter_cons, if_pos hy]
        exact ((insP_perm h2).cons y).trans (.swap _ _ _)
/-- Pairs in order of numbers below 1000: at most a million. -/
def inK (p : Int × Int) : Prop := (0 ≤ p.1 ∧ p.1 < 1000) ∧ (0 ≤ p.2 ∧ p.2 < 1000)
theorem sortedP_len {l : List (Int × Int)} (h : SortedP l) (hb : ∀ p ∈ l, inK p) : l.length ≤ 1000000 := by
  have hs : SortedL (l.map fun p => p.1 * 1000 + p.2) := by
    rw [SortedL, List.pairwise_map]
    refine h.imp_of_mem ?_
    intro x y hx hy hlt
    have h1 := hb x hx
    have h2 := hb y hy
    unfold inK at h1 h2
    rw [ltP_iff] at hlt
    omega
  have := sorted_len (a := 0) (n := 1000000) hs (fun x hx => by
    obtain ⟨p, hp, rfl⟩ := List.mem_map.1 hx
    have := hb p hp
    unfold inK at this
    omega)
  rw [List.length_map] at this
  omega
def trueL (S : List (Int × Int)) : List ((Int × Int) × Bool) := S.map fun p => (p, true)
/-- Block b is the set S of pairs. -/
structure PairAt (w : World) (b : Nat) (S : List (Int × Int)) : Prop where
  so : SortedP S
  bd : ∀ p ∈ S, inK p
  mp : MapAt mkPairs w b (trueL S)
section
variable {w w' : World} {b r : Nat} {S : List (Int × Int)}
theorem PairAt.lt (h : PairAt w b S) : b < w.heap.size := h.mp.lt
theorem PairAt.keep (h : PairAt w b S) (e : w'.heap[b]? = w.heap[b]?) : PairAt w' b S := ⟨h.so, h.bd, h.mp.keep e⟩
theorem PairAt.kept {row : Option Nat} (h : PairAt w b S) (hg : w.grownBy w' row) (hn : some b ≠ row) : PairAt w' b S := h.keep (hg.block b h.lt hn)
theorem PairAt.below (h : PairAt w b S) (hb : Below w.heap.size w w') : PairAt w' b S := h.keep (hb.block b h.lt)
theorem pairAt_made (w : World) : PairAt (w.alloc (.map #[] 0)) w.heap.size [] := ⟨.nil, by simp, mapAt_made mkPairs w⟩
theorem PairAt.put (h : PairAt w b S) {x y : Int} (hp : inK (x, y)) :
    ∃ w', (Instr.mapUpdate 116 (.map (some b)) (.agg #[.int .i64 x, .int .i64 y]) (.bool true)).run Tryz.prog w = .ok () w' ∧ PairAt w' b (insP (x, y) S) ∧ w.grownBy w' (some b) := by
  have hl := sortedP_len h.so h.bd
  have hk := hp
  unfold inK at hk
  obtain ⟨w', h1, h2, h3⟩ := h.mp.put (T := 116) Tryz.underlying116 (x := (x, y)) (v := true) (by unfold trueL; rw [List.length_map]; omega) (show (0 ≤ x ∧ x ≤ 1000000) ∧ (0 ≤ y ∧ y ≤ 1000000) by simp only at hk; omega) trivial
  refine ⟨w', h1, ⟨sorted_insP h.so, fun p hp' => ?_, h2.perm ?_⟩, h3⟩
  · rcases mem_insP.1 hp' with rfl | hp'
    · exact hp
    · exact h.bd p hp'
  · unfold putM trueL
    refine List.Perm.trans ?_ ((insP_perm h.so).map _).symm
    rw [List.map_cons, List.filter_map]
    exact .refl _
theorem PairAt.has (h : PairAt w b S) {x y : Int} (hp : (0 ≤ x ∧ x ≤ 1000000) ∧ (0 ≤ y ∧ y ≤ 1000000)) :
    (Instr.lookup 116 (.map (some b)) (.agg #[.int .i64 x, .int .i64 y]) false).run Tryz.prog w = .ok (.bool (S.contains (x, y))) w := by
  have h1 := h.mp.look (T := 116) Tryz.underlying116 (x := (x, y)) hp
  refine h1.trans (congrArg (fun z => Result.ok (Value.bool z) w) ?_)
  show (getM (trueL S) (x, y)).getD false = _
  cases hg : getM (trueL S) (x, y) with
  | none =>
    have : (x, y) ∉ S := fun hm => getM_none hg ((x, y), true) (List.mem_map.2 ⟨_, hm, rfl⟩) rfl
    show false = _
    rw [show S.contains (x, y) = false from by simpa using this]
  | some v =>
    obtain ⟨q, hq, e⟩ := List.mem_map.1 (getM_mem hg)
    have e1 : q = (x, y) := congrArg Prod.fst e
    have e2 : true = v := congrArg Prod.snd e
    rw [e1] at hq
    have e3 : S.contains (x, y) = true := List.contains_iff_mem.2 hq
    rw [e3, ← e2]
    rfl
end
section
variable (w : World) {ops : Array Oper} {rest : List Oper} {o : Oper} {a : Act} {Q : Exit → Act → World → Prop}
theorem wpList_pair_put (hg : o.guard = none) (m x v : Operand) (hop : o.op = Op.mapUpdate 116 m x v) (b : Nat) (S : List (Int × Int)) (i j : Int) (hm : a.eval m = .map (some b)) (h : PairAt w b S) (hx : a.eval x = .agg #[.int .i64 i, .int .i64 j]) (hv : a.eval v = .bool true) (hk : inK (i, j))
    (hK : ∀ w', PairAt w' b (insP (i, j) S) → w.grownBy w' (some b) → wpList Tryz.prog ops Q rest (a.put o.dst undef) w') : wpList Tryz.prog ops Q (o :: rest) a w := by
  refine wpList_plain hg fun K' hK' => ?_
  obtain ⟨w', hrun, r1, r2⟩ := h.put hk
  unfold Oper.wp
  simp [execOp, hop, hm, hx, hv, hrun, Result.andThen]
  exact hK' _ _ (hK w' r1 r2)
end

theorem pigeon : ∀ (k : Nat) (l : List Int), (∀ m, m < k → (m : Int) ∈ l) → k ≤ l.length
  | 0, _, _ => Nat.zero_le _
  | k + 1, l, h => by
    have hm := h k (by omega)
    have h1 := pigeon k (l.erase k) fun m hm2 => (List.mem_erase_of_ne (by omega)).2 (h m (by omega))
    rw [List.length_erase_of_mem hm] at h1
    have := List.length_pos_of_mem hm
    omega
theorem colBad_iff {cl had : List (Int × Int)} {s : Int} {n : Nat} : colBad cl had s n = true ↔ ∃ x ∈ had, x.2 = (n : Int) ∧ clB cl s x.1 = true := by
  unfold colBad
  rw [List.any_eq_true]
  constructor
  · rintro ⟨x, hx, h⟩
    simp only [Bool.and_eq_true, beq_iff_eq] at h
    exact ⟨x, hx, h⟩
  · rintro ⟨x, hx, h1, h2⟩
    exact ⟨x, hx, by simp [h1, h2]⟩
theorem bad_len {cl had : List (Int × Int)} {s : Int} {n : Nat} (h : ∀ m, m < n → colBad cl had s m = true) : n ≤ had.length := by
  have := pigeon n (had.map (·.2)) fun m hm => by
    obtain ⟨x, hx, h1, _⟩ := colBad_iff.1 (h m hm)
    exact List.mem_map.2 ⟨x, hx, h1⟩
  rwa [List.length_map] at this
theorem colGo_spec {cl had : List (Int × Int)} {s : Int} : ∀ (f n : Nat), (∀ m, m < n → colBad cl had s m = true) → had.length < n + f → (∀ m, m < colGo cl had s f n → colBad cl had s m = true) ∧ colBad cl had s (colGo cl had s f n) = false
  | 0, n, h, hl => by
    have := bad_len h
    omega
  | f + 1, n, h, hl => by
    unfold colGo
    split
    · rename_i hb
      exact colGo_spec f (n + 1) (fun m hm => by
        by_cases e : m = n
        · rw [e]; exact hb
        · exact h m (by omega)) (by omega)
    · rename_i hb
      exact ⟨h, by simpa using hb⟩
theorem colN_spec (cl had : List (Int × Int)) (s : Int) : (∀ m, m < colN cl had s → colBad cl had s m = true) ∧ colBad cl had s (colN cl had s) = false :=
  colGo_spec _ 0 (fun m hm => absurd hm (Nat.not_lt_zero _)) (by omega)
theorem colN_eq {cl had : List (Int × Int)} {s : Int} {n : Nat} (h : ∀ m, m < n → colBad cl had s m = true) (h2 : colBad cl had s n = false) : n = colN cl had s := by
  obtain ⟨h3, h4⟩ := colN_spec cl had s
  rcases Nat.lt_trichotomy n (colN cl had s) with h5 | h5 | h5
  · rw [h3 n h5] at h2; cases h2
  · exact h5
  · rw [h _ h5] at h4; cases h4
theorem colN_le (cl had : List (Int × Int)) (s : Int) : colN cl had s ≤ had.length := bad_len (colN_spec cl had s).1
theorem colsTo_length (cl : List (Int × Int)) : ∀ n, (colsTo cl n).length = n
  | 0 => rfl
  | n + 1 => by unfold colsTo; rw [List.length_append, colsTo_length cl n]; rfl
theorem colsTo_get (cl : List (Int × Int)) {i : Nat} : ∀ {n : Nat} (h : i < n), (colsTo cl n)[i]'(by rw [colsTo_length]; exact h) = ((i : Int), (colN cl (colsTo cl i) i : Int))
  | 0, h => absurd h (Nat.not_lt_zero _)
  | n + 1, h => by
    refine (List.getElem_of_eq (show colsTo cl (n + 1) = colsTo cl n ++ [((n : Int), (colN cl (colsTo cl n) n : Int))] from rfl) _).trans ?_
    by_cases e : i < n
    · rw [List.getElem_append_left (by rw [colsTo_length]; exact e)]
      exact colsTo_get cl e
    · obtain rfl : i = n := by omega
      rw [List.getElem_append_right (by rw [colsTo_length]; omega)]
      simp only [colsTo_length, Nat.sub_self, List.getElem_cons_zero]
theorem colsTo_mem {cl : List (Int × Int)} {n : Nat} {x : Int × Int} : x ∈ colsTo cl n ↔ ∃ i, i < n ∧ x = ((i : Int), (colN cl (colsTo cl i) i : Int)) := by
  constructor
  · intro h
    obtain ⟨i, hi, rfl⟩ := List.getElem_of_mem h
    rw [colsTo_length] at hi
    exact ⟨i, hi, colsTo_get cl hi⟩
  · rintro ⟨i, hi, rfl⟩
    rw [← colsTo_get cl hi]
    exact List.getElem_mem _
/-- The colour of a slot. -/
def colAt (cl : List (Int × Int)) (i : Nat) : Nat := colN cl (colsTo cl i) i
theorem colAt_le (cl : List (Int × Int)) (i : Nat) : colAt cl i ≤ i := by
  have := colN_le cl (colsTo cl i) i
  rw [colsTo_length] at this
  exact this
theorem manyL_snoc (l : List (Int × Int)) (x : Int × Int) : manyL (l ++ [x]) = max (manyL l) (x.2 + 1) := by unfold manyL; rw [List.foldl_append]; rfl
theorem manyL_ge {l : List (Int × Int)} : ∀ {m : Int}, m ≤ l.foldl (fun m x => max m (x.2 + 1)) m ∧ ∀ x ∈ l, x.2 + 1 ≤ l.foldl (fun m x => max m (x.2 + 1)) m := by
  induction l with
  | nil => intro m; simp
  | cons y l ih =>
    intro m
    obtain ⟨h1, h2⟩ := ih (m := max m (y.2 + 1))
    rw [List.foldl_cons]
    refine ⟨by omega, fun x hx => ?_⟩
    rcases List.mem_cons.1 hx with rfl | hx
    · omega
    · exact h2 x hx
theorem noteP_good {l : List (Int × Int)} {a b n : Int} (h : SortedP l ∧ ∀ p ∈ l, 0 ≤ p.1 ∧ p.1 < p.2 ∧ p.2 < n) (ha : 0 ≤ a ∧ a < n) (hb : 0 ≤ b ∧ b < n) : SortedP (noteP l a b) ∧ ∀ p ∈ noteP l a b, 0 ≤ p.1 ∧ p.1 < p.2 ∧ p.2 < n := by
  unfold noteP
  split
  · exact h
  · rename_i hne
    refine ⟨sorted_insP h.1, fun p hp => ?_⟩
    rcases mem_insP.1 hp with rfl | hp
    · unfold pairP; simp only; omega
    · exact h.2 p hp
abbrev GoodP (n : Int) (l : List (Int × Int)) : Prop := SortedP l ∧ ∀ p ∈ l, 0 ≤ p.1 ∧ p.1 < p.2 ∧ p.2 < n
theorem foldNote_good {n a : Int} (ha : 0 ≤ a ∧ a < n) : ∀ (bs : List Int) {l : List (Int × Int)}, GoodP n l → (∀ b ∈ bs, 0 ≤ b ∧ b < n) → GoodP n (bs.foldl (fun l b => noteP l a b) l)
  | [], _, h, _ => h
  | b :: bs, _, h, hb => foldNote_good ha bs (noteP_good h ha (hb b (by simp))) fun x hx => hb x (by simp [hx])
theorem clArgs_good {n : Int} : ∀ (k : Nat), (k : Int) ≤ n → GoodP n (clArgs [] k)
  | 0, _ => ⟨.nil, by simp [clArgs]⟩
  | k + 1, h => by
    have h1 := clArgs_good (n := n) k (by omega)
    unfold clArgs
    have e : (List.range k).foldl (fun l (b : Nat) => noteP l k b) (clArgs [] k) = ((List.range k).map Int.ofNat).foldl (fun l b => noteP l k b) (clArgs [] k) := by rw [List.foldl_map]; rfl
    rw [e]
    refine foldNote_good (by omega) _ h1 fun b hb => ?_
    obtain ⟨m, hm, rfl⟩ := List.mem_map.1 hb
    have := List.mem_range.1 hm
    simp only [Int.ofNat_eq_natCast]
    omega
theorem clLive_good {n : Int} {s0 : List Int} (hs : ∀ s ∈ s0, 0 ≤ s ∧ s < n) {l : List (Int × Int)} (hl : GoodP n l) : ∀ (k : Nat), (k : Int) ≤ n → GoodP n (clLive l s0 k)
  | 0, _ => hl
  | k + 1, h => by
    unfold clLive
    exact foldNote_good (by omega) _ (clLive_good hs hl k (by omega)) hs

set_option maxRecDepth 100000 in
set_option maxHeartbeats 4000000 in
theorem note_any (a b : Int) (bx bm : Nat) (S : List (Int × Int)) (w : World) (hbx : w.heap[bx]? = some (.cells #[.map (some bm)] 116)) (hs : PairAt w bm S) (ha : 0 ≤ a ∧ a < 1000) (hb : 0 ≤ b ∧ b < 1000) :
    Calls Tryz.prog 134 #[.int .i64 a, .int .i64 b, .pointer (some ⟨bx, 0, none⟩)] w (fun e w' => e = .returned (.tuple #[]) ∧ w.grownBy w' (some bm) ∧ PairAt w' bm (noteP S a b)) := by
  have c0 : w.cell? ⟨bx, 0, none⟩ = some (.map (some bm)) := (cell_of_row _ _ 0 _ _ _ hbx).trans rfl
  have HS := hid hs
  clear hs hbx
  by_cases h : a = b
  · have HN : Hid (noteP S a b = S) := hid (by unfold noteP; rw [if_pos h])
    have d : (a != b) = false := by rw [h]; simp
    clear h
    go_enter Tryz.func134, Tryz.ntmps134
    go_wp2
    go_end0
    exact ⟨rfl, ⟨rfl, rfl, rfl, Nat.le_refl _, fun _ _ _ => rfl⟩, by rw [HN.out]; exact HS.out⟩
  · have d : (a != b) = true := by simpa using h
    rcases Int.lt_or_gt_of_ne h with hlt | hlt
    · have hk : inK (a, b) := ⟨ha, hb⟩
      have HN : Hid (noteP S a b = insP (a, b) S) := hid (by unfold noteP pairP; rw [if_neg h, show min a b = a by omega, show max a b = b by omega])
      have n1 : ¬ b < a := by omega
      clear h
      go_enter Tryz.func134, Tryz.ntmps134
      go_wp2_with (first
        | (at_mapUpdate; refine wpList_pair_put _ rfl _ _ _ rfl bm S a b rfl HS.out rfl rfl hk ?_; intro w6 hs6 hg6; have HS6 := hid hs6; have HG6 := hid hg6; clear hs6 hg6))
      go_end0
      exact ⟨rfl, HG6.out, by rw [HN.out]; exact HS6.out⟩
    · have hk : inK (b, a) := ⟨hb, ha⟩
      have HN : Hid (noteP S a b = insP (b, a) S) := hid (by unfold noteP pairP; rw [if_neg h, show min a b = b by omega, show max a b = a by omega])
      have n1 : ¬ a < b := by omega
      have hlt2 : b < a := hlt
      clear h hlt
      go_enter Tryz.func134, Tryz.ntmps134
      go_wp2_with (first
        | (at_mapUpdate; refine wpList_pair_put _ rfl _ _ _ rfl bm S b a rfl HS.out rfl rfl hk ?_; intro w6 hs6 hg6; have HS6 := hid hs6; have HG6 := hid hg6; clear hs6 hg6))
      go_end0
      exact ⟨rfl, HG6.out, by rw [HN.out]; exact HS6.out⟩
set_option maxRecDepth 100000 in
set_option maxHeartbeats 4000000 in
theorem clash_any (a b : Int) (bm : Nat) (S : List (Int × Int)) (w : World) (hs : PairAt w bm S) (ha : 0 ≤ a ∧ a ≤ 1000000) (hb : 0 ≤ b ∧ b ≤ 1000000) :
    Calls Tryz.prog 137 #[.map (some bm), .int .i64 a, .int .i64 b] w (fun e w' => e = .returned (.bool (clB S a b)) ∧ w' = w) := by
  have hpair : ∀ x y : Int, min a b = x → max a b = y → (Instr.lookup 116 (.map (some bm)) (.agg #[.int .i64 x, .int .i64 y]) false).run Tryz.prog w = .ok (.bool (clB S a b)) w := fun x y hx hy => by
    unfold clB pairP
    rw [hx, hy]
    exact hs.has (by omega)
  clear hs
  generalize clB S a b = r at *
  rcases Int.lt_trichotomy a b with h | h | h
  · have hl := hpair a b (by omega) (by omega)
    have n1 : ¬ b < a := by omega
    clear hpair
    go_enter Tryz.func137, Tryz.ntmps137
    go_wp2
    go_ret
    exact ⟨rfl, rfl⟩
  · subst h
    have hl := hpair a a (by omega) (by omega)
    have n1 : ¬ a < a := by omega
    clear hpair
    go_enter Tryz.func137, Tryz.ntmps137
    go_wp2
    go_ret
    exact ⟨rfl, rfl⟩
  · have hl := hpair b a (by omega) (by omega)
    have n1 : ¬ a < b := by omega
    clear hpair
    go_enter Tryz.func137, Tryz.ntmps137
    go_wp2
    go_ret
    exact ⟨rfl, rfl⟩
end Go.Proofs.YtgalekifgnecjaaGreat
