/- Keys that are pairs of numbers. -/
import Derived.Test.YtgalekifgnecjaaGreatM1
import Derived.WideKeyArr
namespace Go.Proofs.YtgalekifgnecjaaGreat
open Go.RowKit
open Go.Maps (Keyed)
theorem arr48 : WideMaps.ArrKey Tryz.prog 48 3 2 := ⟨Tryz.underlying48, by kernel_rfl, by kernel_rfl, by kernel_rfl⟩
theorem keyed48 : Keyed Tryz.prog 48 := Keyed.of_law arr48.law
end Go.Proofs.YtgalekifgnecjaaGreat
