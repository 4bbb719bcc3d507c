/- DeleteFunc and ContainsFunc on slices of numbers, Clone on slices of lines: the shelf's contracts at this program. -/
import Derived.Shelf.SlicesE.DeleteFunc
import Derived.Ground.SlgfProg
import Derived.Lib.OwnBridge
import Derived.Test.YtnjbahiaelehkaaA16
namespace Go.Proofs
open Go.Shelf
def Try.lays116_ren : Go.Shelf.Ren := ⟨fun | 10 => 116 | 6 => 108 | n => n, fun | 22 => 46 | 23 => 3 | 25 => 121 | 3 => 3 | 4 => 4 | 0 => 0 | n => n, fun | n => n⟩
theorem Try.lays116 : Go.Proofs.SlLaysH.n10 Try.prog Try.lays116_ren := {
  mixed := by kernel_rfl
  f6 := ⟨Try.f108.name, by decide, Try.func108.trans (congrArg some (by kernel_rfl))⟩
  f10 := ⟨Try.f116.name, by decide, Try.func116.trans (congrArg some (by kernel_rfl))⟩
  t0 := Try.underlying0
  a0 := Try.isAgg0
  z0 := Try.sizeOf0
  v0 := Try.zeroValue0
  t3 := Try.underlying3
  a3 := Try.isAgg3
  z3 := Try.sizeOf3
  v3 := Try.zeroValue3
  t4 := Try.underlying4
  a4 := Try.isAgg4
  z4 := Try.sizeOf4
  v4 := Try.zeroValue4
  t22 := Try.underlying46
  a22 := Try.isAgg46
  z22 := Try.sizeOf46
  v22 := Try.zeroValue46
  a23 := Try.isAgg3
  z23 := Try.sizeOf3
  t25 := Try.underlying121
  a25 := Try.isAgg121
  z25 := Try.sizeOf121
  v25 := Try.zeroValue121 }
end Go.Proofs
namespace Go.Proofs.Ytnjbahiaelehkaa
open Go.RowKit Go.Sort Go.Lib

theorem pred118 (k : Int) (b : Nat) (w : World) (hB : b < w.heap.size) (hc : w.cell? ⟨b, 0, none⟩ = some (.int .i64 k)) : PredAt Try.prog 118 #[.pointer (some ⟨b, 0, none⟩)] (Value.int .i64) (fun x => x == k) w := by
  intro W x hb
  show Calls Try.prog 118 #[.int .i64 x, .pointer (some ⟨b, 0, none⟩)] W _
  refine (k118 x k b W ((hb.cell (p := ⟨b, 0, none⟩) hB).trans hc)).mono ?_
  rintro e w' ⟨rfl, rfl⟩
  exact ⟨rfl, 0, rfl⟩
theorem over118 (k : Int) (b g off size : Nat) (w : World) (hB : b < w.heap.size) (hne : b ≠ g) (hc : w.cell? ⟨b, 0, none⟩ = some (.int .i64 k)) : PredOver Try.prog 118 #[.pointer (some ⟨b, 0, none⟩)] (Value.int .i64) (fun x => x == k) g off size w := by
  intro n os dk x _
  show Calls Try.prog 118 #[.int .i64 x, .pointer (some ⟨b, 0, none⟩)] _ _
  refine (k118 x k b _ ?_).mono ?_
  · unfold sortWorld
    rw [cell?_grow _ _ _ (by show b < (putRow _ _ _ _ _).heap.size; rw [size_putRow]; exact hB), cell?_putRow_other _ _ g off _ _ (Or.inl hne)]
    exact hc
  · rintro e w' ⟨rfl, rfl⟩
    exact ⟨rfl, 0, rfl⟩

/-- The numbers of l other than k, in order. -/
def drop (l : List Int) (k : Int) : List Int := l.filter fun x => !(x == k)

theorem delete_ints (l : List Int) (v : Value) (k : Int) (b base : Nat) (w : World) (hv : OwnI w base v l) (hne : l ≠ []) (hlen : l.length ≤ 1000000) (hb : b < base) (hB : base ≤ w.heap.size) (hc : w.cell? ⟨b, 0, none⟩ = some (.int .i64 k)) :
    Calls Try.prog 116 #[v, .func (.func 118) #[] #[.pointer (some ⟨b, 0, none⟩)]] w fun e w' => Below base w w' ∧ ∃ v', e = .returned v' ∧ OwnI w' base v' (drop l k) := by
  have hnn : v ≠ .slice none 0 0 := by
    rintro rfl
    obtain ⟨_, h⟩ := hv
    rcases h with ⟨_, h0⟩ | ⟨g, cap, cur, h, _⟩
    · exact hne (List.length_eq_zero_iff.1 h0)
    · cases h
  have hO := hv
  unfold OwnI at hO
  obtain ⟨g, cap, rfl, hbg, hgl, hncap, hcm, hlen2, hH⟩ := Lib.holds_of_ownsRow hO hnn
  have eg : ∀ args w, (callFunc 118 args).run Try.prog w = .ok (.enter 118 args) w := Go.Proofs.enters_of Try.func118 (by kernel_rfl) rfl
  have hcon := AnyE.slices_DeleteFunc Try.lays116 (Value.int .i64) (fun _ => rfl) (fun x => x == k) 118 #[.pointer (some ⟨b, 0, none⟩)] eg 0 Try.zeroValue3 g 0 cap l.toArray w
    (pred118 k b w (by omega) hc) (over118 k b g 0 l.toArray.size w (by omega) (by omega) hc) hH (by simp; omega) (by simp; omega)
  simp only [List.size_toArray] at hcon
  refine hcon.mono ?_
  rintro e w' ⟨rfl, q, rfl⟩
  refine ⟨Lib.below_putRow (Below.refl _ _) hbg, _, rfl, ?_⟩
  have hf : (l.filter fun x => !(x == k)).length ≤ l.length := List.length_filter_le _ _
  have := Lib.ownsRow_putRow (q := q) (k := (l.filter fun x => !(x == k)).length) (ys := (l.filter fun x => !(x == k)) ++ List.replicate (l.length - (l.filter fun x => !(x == k)).length) 0) hO (by simp; omega) hf
  rw [List.take_left'] at this
  · exact this
  · rfl
end Go.Proofs.Ytnjbahiaelehkaa
