/- Clashes and colours, plainly. -/
import Derived.Test.YtgalekifgnecjaaGreatS3
namespace Go.Proofs.YtgalekifgnecjaaGreat
open Go.RowKit
theorem pigeon : ∀ (k : Nat) (l : List Int), (∀ m, m < k → (m : Int) ∈ l) → k ≤ l.length
  | 0, _, _ => Nat.zero_le _
  | k + 1, l, h => by
    have hm := h k (by omega)
    have h1 := pigeon k (l.erase k) fun m hm2 => (List.mem_erase_of_ne (by omega)).2 (h m (by omega))
    rw [List.length_erase_of_mem hm] at h1
    have := List.length_pos_of_mem hm
    omega
theorem colBad_iff {cl had : List (Int × Int)} {s : Int} {n : Nat} : colBad cl had s n = true ↔ ∃ x ∈ had, x.2 = (n : Int) ∧ clB cl s x.1 = true := by
  unfold colBad
  rw [List.any_eq_true]
  constructor
  · rintro ⟨x, hx, h⟩
    simp only [Bool.and_eq_true, beq_iff_eq] at h
    exact ⟨x, hx, h⟩
  · rintro ⟨x, hx, h1, h2⟩
    exact ⟨x, hx, by simp [h1, h2]⟩
theorem bad_len {cl had : List (Int × Int)} {s : Int} {n : Nat} (h : ∀ m, m < n → colBad cl had s m = true) : n ≤ had.length := by
  have := pigeon n (had.map (·.2)) fun m hm => by
    obtain ⟨x, hx, h1, _⟩ := colBad_iff.1 (h m hm)
    exact List.mem_map.2 ⟨x, hx, h1⟩
  rwa [List.length_map] at this
theorem colGo_spec {cl had : List (Int × Int)} {s : Int} : ∀ (f n : Nat), (∀ m, m < n → colBad cl had s m = true) → had.length < n + f → (∀ m, m < colGo cl had s f n → colBad cl had s m = true) ∧ colBad cl had s (colGo cl had s f n) = false
  | 0, n, h, hl => by
    have := bad_len h
    omega
  | f + 1, n, h, hl => by
    unfold colGo
    split
    · rename_i hb
      exact colGo_spec f (n + 1) (fun m hm => by
        by_cases e : m = n
        · rw [e]; exact hb
        · exact h m (by omega)) (by omega)
    · rename_i hb
      exact ⟨h, by simpa using hb⟩
theorem colN_spec (cl had : List (Int × Int)) (s : Int) : (∀ m, m < colN cl had s → colBad cl had s m = true) ∧ colBad cl had s (colN cl had s) = false :=
  colGo_spec _ 0 (fun m hm => absurd hm (Nat.not_lt_zero _)) (by omega)
theorem colN_eq {cl had : List (Int × Int)} {s : Int} {n : Nat} (h : ∀ m, m < n → colBad cl had s m = true) (h2 : colBad cl had s n = false) : n = colN cl had s := by
  obtain ⟨h3, h4⟩ := colN_spec cl had s
  rcases Nat.lt_trichotomy n (colN cl had s) with h5 | h5 | h5
  · rw [h3 n h5] at h2; cases h2
  · exact h5
  · rw [h _ h5] at h4; cases h4
theorem colN_le (cl had : List (Int × Int)) (s : Int) : colN cl had s ≤ had.length := bad_len (colN_spec cl had s).1
theorem colsTo_length (cl : List (Int × Int)) : ∀ n, (colsTo cl n).length = n
  | 0 => rfl
  | n + 1 => by unfold colsTo; rw [List.length_append, colsTo_length cl n]; rfl
theorem colsTo_get (cl : List (Int × Int)) {i : Nat} : ∀ {n : Nat} (h : i < n), (colsTo cl n)[i]'(by rw [colsTo_length]; exact h) = ((i : Int), (colN cl (colsTo cl i) i : Int))
  | 0, h => absurd h (Nat.not_lt_zero _)
  | n + 1, h => by
    refine (List.getElem_of_eq (show colsTo cl (n + 1) = colsTo cl n ++ [((n : Int), (colN cl (colsTo cl n) n : Int))] from rfl) _).trans ?_
    by_cases e : i < n
    · rw [List.getElem_append_left (by rw [colsTo_length]; exact e)]
      exact colsTo_get cl e
    · obtain rfl : i = n := by omega
      rw [List.getElem_append_right (by rw [colsTo_length]; omega)]
      simp only [colsTo_length, Nat.sub_self, List.getElem_cons_zero]
theorem colsTo_mem {cl : List (Int × Int)} {n : Nat} {x : Int × Int} : x ∈ colsTo cl n ↔ ∃ i, i < n ∧ x = ((i : Int), (colN cl (colsTo cl i) i : Int)) := by
  constructor
  · intro h
    obtain ⟨i, hi, rfl⟩ := List.getElem_of_mem h
    rw [colsTo_length] at hi
    exact ⟨i, hi, colsTo_get cl hi⟩
  · rintro ⟨i, hi, rfl⟩
    rw [← colsTo_get cl hi]
    exact List.getElem_mem _
/-- The colour of a slot. -/
def colAt (cl : List (Int × Int)) (i : Nat) : Nat := colN cl (colsTo cl i) i
theorem colAt_apart {cl : List (Int × Int)} {i t : Nat} (ht : t < i) (hc : clB cl i t = true) : colAt cl t ≠ colAt cl i := by
  intro e
  have h := (colN_spec cl (colsTo cl i) i).2
  have : colBad cl (colsTo cl i) i (colN cl (colsTo cl i) i) = true := colBad_iff.2 ⟨_, colsTo_mem.2 ⟨t, ht, rfl⟩, by show ((colAt cl t : Nat) : Int) = ((colAt cl i : Nat) : Int); rw [e], hc⟩
  rw [h] at this
  cases this
theorem colAt_less {cl : List (Int × Int)} {i j : Nat} (h : j < colAt cl i) : ∃ t, t < i ∧ clB cl i t = true ∧ colAt cl t = j := by
  obtain ⟨x, hx, h1, h2⟩ := colBad_iff.1 ((colN_spec cl (colsTo cl i) i).1 j h)
  obtain ⟨t, ht, rfl⟩ := colsTo_mem.1 hx
  refine ⟨t, ht, h2, ?_⟩
  have h3 : ((colN cl (colsTo cl t) t : Nat) : Int) = (j : Int) := h1
  show colN cl (colsTo cl t) t = j
  omega
theorem colAt_le (cl : List (Int × Int)) (i : Nat) : colAt cl i ≤ i := by
  have := colN_le cl (colsTo cl i) i
  rw [colsTo_length] at this
  exact this
theorem manyL_snoc (l : List (Int × Int)) (x : Int × Int) : manyL (l ++ [x]) = max (manyL l) (x.2 + 1) := by unfold manyL; rw [List.foldl_append]; rfl
theorem manyL_ge {l : List (Int × Int)} : ∀ {m : Int}, m ≤ l.foldl (fun m x => max m (x.2 + 1)) m ∧ ∀ x ∈ l, x.2 + 1 ≤ l.foldl (fun m x => max m (x.2 + 1)) m := by
  induction l with
  | nil => intro m; simp
  | cons y l ih =>
    intro m
    obtain ⟨h1, h2⟩ := ih (m := max m (y.2 + 1))
    rw [List.foldl_cons]
    refine ⟨by omega, fun x hx => ?_⟩
    rcases List.mem_cons.1 hx with rfl | hx
    · omega
    · exact h2 x hx
/-- Each pair of the clashes: in order, in the slots. -/
theorem pairP_ltP {a b : Int} (h : a ≠ b) : (pairP a b).1 < (pairP a b).2 := by unfold pairP; simp only; omega
theorem noteP_good {l : List (Int × Int)} {a b n : Int} (h : SortedP l ∧ ∀ p ∈ l, 0 ≤ p.1 ∧ p.1 < p.2 ∧ p.2 < n) (ha : 0 ≤ a ∧ a < n) (hb : 0 ≤ b ∧ b < n) : SortedP (noteP l a b) ∧ ∀ p ∈ noteP l a b, 0 ≤ p.1 ∧ p.1 < p.2 ∧ p.2 < n := by
  unfold noteP
  split
  · exact h
  · rename_i hne
    refine ⟨sorted_insP h.1, fun p hp => ?_⟩
    rcases mem_insP.1 hp with rfl | hp
    · unfold pairP; simp only; omega
    · exact h.2 p hp
abbrev GoodP (n : Int) (l : List (Int × Int)) : Prop := SortedP l ∧ ∀ p ∈ l, 0 ≤ p.1 ∧ p.1 < p.2 ∧ p.2 < n
theorem foldNote_good {n a : Int} (ha : 0 ≤ a ∧ a < n) : ∀ (bs : List Int) {l : List (Int × Int)}, GoodP n l → (∀ b ∈ bs, 0 ≤ b ∧ b < n) → GoodP n (bs.foldl (fun l b => noteP l a b) l)
  | [], _, h, _ => h
  | b :: bs, _, h, hb => foldNote_good ha bs (noteP_good h ha (hb b (by simp))) fun x hx => hb x (by simp [hx])
theorem clArgs_good {n : Int} : ∀ (k : Nat), (k : Int) ≤ n → GoodP n (clArgs [] k)
  | 0, _ => ⟨.nil, by simp [clArgs]⟩
  | k + 1, h => by
    have h1 := clArgs_good (n := n) k (by omega)
    unfold clArgs
    have e : (List.range k).foldl (fun l (b : Nat) => noteP l k b) (clArgs [] k) = ((List.range k).map Int.ofNat).foldl (fun l b => noteP l k b) (clArgs [] k) := by rw [List.foldl_map]; rfl
    rw [e]
    refine foldNote_good (by omega) _ h1 fun b hb => ?_
    obtain ⟨m, hm, rfl⟩ := List.mem_map.1 hb
    have := List.mem_range.1 hm
    simp only [Int.ofNat_eq_natCast]
    omega
theorem clLive_good {n : Int} {s0 : List Int} (hs : ∀ s ∈ s0, 0 ≤ s ∧ s < n) {l : List (Int × Int)} (hl : GoodP n l) : ∀ (k : Nat), (k : Int) ≤ n → GoodP n (clLive l s0 k)
  | 0, _ => hl
  | k + 1, h => by
    unfold clLive
    exact foldNote_good (by omega) _ (clLive_good hs hl k (by omega)) hs
end Go.Proofs.YtgalekifgnecjaaGreat
