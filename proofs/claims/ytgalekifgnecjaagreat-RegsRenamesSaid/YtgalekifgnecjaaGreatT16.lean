/- The reader of package regs: homed, all cases. -/
import Derived.Test.YtgalekifgnecjaaGreatT12
import Derived.Test.YtgalekifgnecjaaGreatT13
namespace Go.Proofs.YtgalekifgnecjaaGreat
open Go.RowKit Go.Shelf
theorem homed_any (w0 : World) (r : RdrN) (a : Nat) (w : World) (hm : RdrM w0 r) (h : RI w0 r a w) (hw : writB r.u = true) (hh : r.h.length ≤ 1000000) (ht : r.t.length ≤ 1000000) (hv : r.v.code.length ≤ 1000000) (hwf : ∀ x ∈ r.h, -9223372036854775808 ≤ x ∧ x ≤ 9223372036854775807) :
    Calls Tryz.prog 182 #[.pointer (some ⟨w0.heap.size, 0, none⟩)] w (RP w0 r (if homedB r.u r.v r.h r.t = true then some a else none) w) := by
  cases h1 : homHd1 r.u r.v r.h r.t with
  | false =>
    rw [if_neg (by rw [homedB_eq, h1]; simp)]
    exact homed_hd1 w0 r a w hm h hw hh ht hv h1
  | true => exact homed_main w0 r a w hm h hw hh ht hv hwf h1
end Go.Proofs.YtgalekifgnecjaaGreat
