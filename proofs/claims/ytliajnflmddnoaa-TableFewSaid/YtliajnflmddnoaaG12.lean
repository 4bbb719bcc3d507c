/- Contracts of slices.Clone on numbers and on cells. -/
import Derived.Test.YtliajnflmddnoaaG11
namespace Go.Proofs.Ytliajnflmddnoaa
open Go.RowKit

def OwnRetP (T : TypeId) (l : List (Int × Int)) (w : World) (e : Ending) (w' : World) : Prop := Below w.heap.size w w' ∧ ∃ v, e = .returned v ∧ OwnP T w' w.heap.size v l

set_option maxRecDepth 100000 in
set_option maxHeartbeats 1000000 in
theorem clone63 (L : List (Int × Int)) (a : Option Addr) (cap : Nat) (w : World) (hl : RdP w a L) (hlen : L.length ≤ 100000) :
    Calls Try.prog 63 #[.slice a L.length cap] w (OwnRetP 99 L w) := by
  have HL := hid hl; clear hl
  cases a with
  | none =>
    have hn : L = [] := by
      cases L with
      | nil => rfl
      | cons x l =>
        obtain ⟨b, off, e, _⟩ := HL.out 0 (Nat.succ_pos _)
        cases e
    subst hn
    have hq := fun (w : World) (a : Option Addr) (n c : Nat) => Lib.run_eql_slice_nil (P := Try.prog) w 42 99 a n c 0 0 Try.underlying42
    go_enter Try.func63, Try.ntmps63
    go_wp2
    go_ret
    exact ⟨Below.refl _ _, _, rfl, OwnP.nil _ _ _⟩
  | some a =>
    have hq := fun (w : World) (a : Option Addr) (n c : Nat) => Lib.run_eql_slice_nil (P := Try.prog) w 42 99 a n c 0 0 Try.underlying42
    go_enter Try.func63, Try.ntmps63
    go_wp2_with (at_builtin; refine wpList_append_pairs pt42 _ rfl _ _ rfl w.heap.size _ [] L rfl (OwnP.none (Nat.le_refl _) (heapn _ _ _ rfl)) (some a) cap rfl (HL.out.below (bnew _ _)) (by simp; omega) (by simp) ?_; intro v' w3 hown' hgrow hnil; have HG := hid hgrow; have HO := hid hown'; clear hgrow hown' hnil)
    go_ret
    exact ⟨(bnew _ _).grown HG.out (by simp) (own_ge (OwnP.none (T := 99) (base := w.heap.size) (w := w.alloc (.cells #[] 99)) (Nat.le_refl _) (heapn _ _ _ rfl))), _, rfl, by simpa using HO.out⟩
set_option maxRecDepth 100000 in
set_option maxHeartbeats 1000000 in
theorem clone62 (L : List Int) (a : Option Addr) (cap : Nat) (w : World) (hl : RdI w a L) (hlen : L.length ≤ 100000) :
    Calls Try.prog 62 #[.slice a L.length cap] w (OwnRet L w) := by
  have HL := hid hl; clear hl
  cases a with
  | none =>
    have hn : L = [] := by
      cases L with
      | nil => rfl
      | cons x l =>
        obtain ⟨b, off, e, _⟩ := HL.out 0 (Nat.succ_pos _)
        cases e
    subst hn
    have hq := fun (w : World) (a : Option Addr) (n c : Nat) => Lib.run_eql_slice_nil (P := Try.prog) w 23 3 a n c 0 0 Try.underlying23
    go_enter Try.func62, Try.ntmps62
    go_wp2
    go_ret
    exact ⟨Below.refl _ _, _, rfl, World.ownsRow_nil _ _ _ _⟩
  | some a =>
    have hq := fun (w : World) (a : Option Addr) (n c : Nat) => Lib.run_eql_slice_nil (P := Try.prog) w 23 3 a n c 0 0 Try.underlying23
    go_enter Try.func62, Try.ntmps62
    go_wp2_with (at_builtin; refine wpList_append_ints _ rfl _ _ rfl w.heap.size _ [] L rfl (OwnI.none (Nat.le_refl _) (heapn _ _ _ rfl)) (some a) cap rfl (HL.out.below (bnew _ _)) (by simp; omega) (by simp) ?_; intro v' w3 hown' hgrow hnil; have HG := hid hgrow; have HO := hid hown'; clear hgrow hown' hnil)
    go_ret
    exact ⟨(bnew _ _).grown HG.out (by simp) (own_ge (OwnI.none (base := w.heap.size) (w := w.alloc (.cells #[] 3)) (Nat.le_refl _) (heapn _ _ _ rfl))), _, rfl, by simpa using HO.out⟩
end Go.Proofs.Ytliajnflmddnoaa
