/- Contracts of the library's functions on slices of numbers, as package prove uses them: IndexFunc, ContainsFunc, Clone. -/
import Derived.Test.YtnjbahiaelehkaaA15
import Derived.Shelf.SlicesE.Clone
import Derived.Ground.SlgnProg
namespace Go.Proofs
open Go.Shelf
def Try.lays117_ren : Go.Shelf.Ren := ⟨fun | 41 => 117 | n => n, fun | 22 => 46 | 23 => 3 | 4 => 4 | n => n, fun | n => n⟩
theorem Try.lays117 : Go.Proofs.SlLaysE0.n41 Try.prog Try.lays117_ren := {
  mixed := by kernel_rfl
  f41 := ⟨Try.f117.name, by decide, Try.func117.trans (congrArg some (by kernel_rfl))⟩
  t4 := Try.underlying4
  a4 := Try.isAgg4
  z4 := Try.sizeOf4
  v4 := Try.zeroValue4
  t22 := Try.underlying46
  a22 := Try.isAgg46
  z22 := Try.sizeOf46
  v22 := Try.zeroValue46 }
def Try.lays82_ren : Go.Shelf.Ren := ⟨fun | 41 => 82 | n => n, fun | 22 => 22 | 23 => 24 | 4 => 4 | n => n, fun | n => n⟩
theorem Try.lays82 : Go.Proofs.SlLaysE0.n41 Try.prog Try.lays82_ren := {
  mixed := by kernel_rfl
  f41 := ⟨Try.f82.name, by decide, Try.func82.trans (congrArg some (by kernel_rfl))⟩
  t4 := Try.underlying4
  a4 := Try.isAgg4
  z4 := Try.sizeOf4
  v4 := Try.zeroValue4
  t22 := Try.underlying22
  a22 := Try.isAgg22
  z22 := Try.sizeOf22
  v22 := Try.zeroValue22 }
end Go.Proofs
namespace Go.Proofs.Ytnjbahiaelehkaa
open Go.RowKit

/-- A list of numbers, read off a slice. -/
def RdI (w : World) (a : Option Addr) (l : List Int) : Prop :=
  ∀ i (h : i < l.length), ∃ b off, a = some ⟨b, off, none⟩ ∧ b < w.heap.size ∧ w.cell? ⟨b, off + i, none⟩ = some (.int .i64 l[i])
theorem RdI.below {w w' : World} {a : Option Addr} {l : List Int} (h : RdI w a l) (hb : Below w.heap.size w w') : RdI w' a l := by
  intro i hi
  obtain ⟨b, off, ha, hlt, h1⟩ := h i hi
  exact ⟨b, off, ha, Nat.lt_of_lt_of_le hlt hb.size, cell_later hb h1⟩

theorem k118 (x k : Int) (b : Nat) (w : World) (hc : w.cell? ⟨b, 0, none⟩ = some (.int .i64 k)) : Calls Try.prog 118 #[.int .i64 x, .pointer (some ⟨b, 0, none⟩)] w (RetS (.bool (x == k)) w) := by
  go_enter Try.func118, Try.ntmps118
  go_wp2
  go_ret
  exact ⟨rfl, rfl⟩
def inF (x : Int) : Bool := inB x (-1099511627776) 1099511627776
theorem k70 (x : Int) (w : World) : Calls Try.prog 70 #[.int .i64 x] w (RetS (.bool (!inF x)) w) := by
  go_enter Try.func70, Try.ntmps70
  go_wp2_with (go_at_call 71; refine (within_any _ _ _ _).mono ?_; rintro e w' ⟨rfl, rfl⟩)
  go_ret
  exact ⟨rfl, rfl⟩

/-- The first place that meets p, or -1. -/
def idxB (p : Int → Bool) (l : List Int) : Int := match l.findIdx? p with | some i => i | none => -1
theorem idxB_some {p : Int → Bool} {l : List Int} {i : Nat} (h : i < l.length) (hp : p l[i] = true) (hn : ∀ x, x ∈ l.take i → p x = false) : idxB p l = i := by
  unfold idxB
  have : l.findIdx? p = some i := by
    rw [List.findIdx?_eq_some_iff_getElem]
    refine ⟨h, hp, fun j hj => ?_⟩
    have := hn l[j] (by rw [List.mem_take_iff_getElem]; exact ⟨j, by omega, rfl⟩)
    simp [this]
  rw [this]
theorem idxB_none {p : Int → Bool} {l : List Int} (hn : ∀ x, x ∈ l → p x = false) : idxB p l = -1 := by
  unfold idxB
  have : l.findIdx? p = none := by rw [List.findIdx?_eq_none_iff]; exact fun x hx => hn x hx
  rw [this]

set_option maxHeartbeats 1000000 in
theorem index118 (k : Int) (b : Nat) (l : List Int) (a : Option Addr) (cap : Nat) (w : World) (hc : w.cell? ⟨b, 0, none⟩ = some (.int .i64 k)) (hl : RdI w a l) (hlen : l.length ≤ 1000000) :
    Calls Try.prog 108 #[.slice a l.length cap, .func (.func 118) #[] #[.pointer (some ⟨b, 0, none⟩)]] w (RetS (.int .i64 (idxB (· == k) l)) w) := by
  have HL := hid hl; clear hl
  go_enter Try.func108, Try.ntmps108
  go_wp2
  go_loop [8] (fun i => ∃ j : Nat, j ≤ l.length ∧ i = .int .i64 j ∧ ∀ x, x ∈ l.take j → (x == k) = false) (fun i => l.length - (intOf i).toNat)
  case atStart => exact ⟨0, Nat.zero_le _, rfl, by simp⟩
  case round =>
    obtain ⟨j, hj, rfl, hq⟩ := hrel
    have HQ := hid hq; clear hq
    by_cases hlt : j < l.length
    · obtain ⟨b2, off, ha, hlt2, h1⟩ := HL.out j hlt
      subst ha
      go_wp2_with (go_at_call 118; refine (k118 _ k b _ hc).mono ?_; rintro e w' ⟨rfl, rfl⟩)
      · have ht : (l[j] == k) = true := by assumption
        go_ret
        exact ⟨ret_int (idxB_some (p := (· == k)) hlt ht HQ.out).symm, rfl⟩
      · have ht : (l[j] == k) = false := by assumption
        have HT := hid ht; clear ht
        go_round
        case rel =>
          refine ⟨j + 1, by omega, by go_num, ?_⟩
          intro x hx
          rw [take_last hlt, List.mem_append] at hx
          rcases hx with hx | hx
          · exact HQ.out x hx
          · rw [List.mem_singleton.1 hx]; exact HT.out
        case measure => simp [intOf]; omega
    · go_wp2
      go_ret
      exact ⟨ret_int (idxB_none (p := (· == k)) (fun x hx => HQ.out x (by rw [List.take_of_length_le (by omega)]; exact hx))).symm, rfl⟩

set_option maxHeartbeats 1000000 in
theorem index70 (l : List Int) (a : Option Addr) (cap : Nat) (w : World) (hl : RdI w a l) (hlen : l.length ≤ 1000000) :
    Calls Try.prog 108 #[.slice a l.length cap, .func (.func 70) #[] #[]] w (RetS (.int .i64 (idxB (fun x => !inF x) l)) w) := by
  have HL := hid hl; clear hl
  go_enter Try.func108, Try.ntmps108
  go_wp2
  go_loop [8] (fun i => ∃ j : Nat, j ≤ l.length ∧ i = .int .i64 j ∧ ∀ x, x ∈ l.take j → (!inF x) = false) (fun i => l.length - (intOf i).toNat)
  case atStart => exact ⟨0, Nat.zero_le _, rfl, by simp⟩
  case round =>
    obtain ⟨j, hj, rfl, hq⟩ := hrel
    have HQ := hid hq; clear hq
    by_cases hlt : j < l.length
    · obtain ⟨b2, off, ha, hlt2, h1⟩ := HL.out j hlt
      subst ha
      go_wp2_with (go_at_call 70; refine (k70 _ _).mono ?_; rintro e w' ⟨rfl, rfl⟩)
      · have ht : (!inF l[j]) = true := by assumption
        go_ret
        exact ⟨ret_int (idxB_some (p := fun x => !inF x) hlt ht HQ.out).symm, rfl⟩
      · have ht : (!inF l[j]) = false := by assumption
        have HT := hid ht; clear ht
        go_round
        case rel =>
          refine ⟨j + 1, by omega, by go_num, ?_⟩
          intro x hx
          rw [take_last hlt, List.mem_append] at hx
          rcases hx with hx | hx
          · exact HQ.out x hx
          · rw [List.mem_singleton.1 hx]; exact HT.out
        case measure => simp [intOf]; omega
    · go_wp2
      go_ret
      exact ⟨ret_int (idxB_none (p := fun x => !inF x) (fun x hx => HQ.out x (by rw [List.take_of_length_le (by omega)]; exact hx))).symm, rfl⟩

/-- A slice of numbers of the call's own. -/
def OwnI (w : World) (base : Nat) (v : Value) (l : List Int) : Prop := w.ownsRow base 3 1 v l.length (l.map (Value.int .i64))
theorem OwnI.rd {w : World} {base : Nat} {v : Value} {l : List Int} (h : OwnI w base v l) : ∃ a cap, v = .slice a l.length cap ∧ RdI w a l := by
  obtain ⟨_, h⟩ := h
  rcases h with ⟨rfl, h0⟩ | ⟨g, cap, cur, rfl, hg, hh, h1, h2, h3, h4⟩
  · exact ⟨none, 0, by rw [h0], fun i hi => by omega⟩
  · refine ⟨_, cap, rfl, fun i hi => ⟨g, 0, rfl, lt_of_heap hh, ?_⟩⟩
    rw [cell_of_row _ _ _ _ _ _ hh, Nat.zero_add]
    have e : (cur.toList.take (l.length * 1))[i]? = (l.map (Value.int .i64))[i]? := by rw [h4]
    rw [List.getElem?_take, if_pos (by omega)] at e
    simpa [hi] using e
theorem info3 : (Try.prog.info? 3).map (fun i => (i.zero, i.size, i.bytes)) = some (some (.int .i64 0), 1, 8) := by kernel_rfl
theorem clone_ints (l : List Int) (v : Value) (base : Nat) (w : World) (hv : OwnI w base v l) (hlen : l.length ≤ 1000000) :
    Calls Try.prog 117 #[v] w fun e w' => Below w.heap.size w w' ∧ ∃ v', e = .returned v' ∧ OwnI w' w.heap.size v' l := by
  obtain ⟨i0, hi, hz0, hz1, hz2⟩ := info_parts info3
  obtain ⟨hL, h⟩ := hv
  rcases h with ⟨rfl, h0⟩ | ⟨g, cap, cur, rfl, hg, hh, h1, h2, h3, h4⟩
  · refine (AnyE.slices_Clone_nil Try.lays117 0 0 w).mono ?_
    rintro e w' ⟨rfl, rfl⟩
    exact ⟨Below.refl _ _, _, rfl, hL, .inl ⟨rfl, h0⟩⟩
  · refine (AnyE.slices_Clone Try.lays117 i0 _ 1 8 hi hz0 hz1 hz2 rfl (by decide) (fun w => Try.sizeOf3 w) g 0 l.length cap (l.map (Value.int .i64)) w (by simp) (by unfold maxLen; omega) (by omega) ?_ ?_).mono ?_
    · intro j u hj
      rw [cell_of_row _ _ _ _ _ _ hh, Nat.zero_add]
      rw [← h4, List.getElem?_take] at hj
      split at hj
      · simpa using hj
      · cases hj
    · intro u hu
      obtain ⟨_, _, rfl⟩ := List.mem_map.1 hu
      rfl
    · rintro e w' ⟨v', rfl, ho, _, hb⟩
      exact ⟨hb, v', rfl, ho⟩
end Go.Proofs.Ytnjbahiaelehkaa
