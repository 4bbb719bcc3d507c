/-
  No cell of these rows narrows 'for every input' (looked for: loops, veiled, ifaces, maps, wideKeys, modest, calm, conditions, laid).
  DERIVED. THE GIVEN ROWS OF THIS SEAT. 8 by the template 'for every input the law returns true; each argument reads behind the call as it read before'; 0 by the template 'total and deterministic' (their statements: YtgalekifgnecjaaGreatTotals.lean).
  GIVEN WITH THE SEED: the statements are not yours to turn. If you find one false, say at which input.
  Laid BY PROGRAM, IN A SANDBOX (cutbox-rows.mjs): the forced cells as the released guide's own fill.sh prints them over the translation 181bbec9e2f1688a… (all of the seat's roots in one cut). By AI agents, Wed Nov 11 2026. No macro, syntax, notation, axiom, sorry.
-/
import Derived.Test.YtgalekifgnecjaaGreatChecked
import GoSem.Claim
import GoSem.ClaimJoined
import GoSem.ClaimMapViews
import Derived.JoinedTies
import Derived.KernelRfl
namespace Go.Proofs.YtgalekifgnecjaaGreat
/- THE CELL 'sum', in the pinned program and in every row, IS THE sha256 OF THE DUMP (.gsa) THAT YtgalekifgnecjaaGreatProg.lean LOADS. Nothing in Lean hashes anything: it is a label: what it is worth is what the hold of that sum in a sandbox is worth. -/
noncomputable def Tryz.pinned : Pinned := { name := "ytgalekifgnecjaagreat", sum := "181bbec9e2f1688aae114bdee65aa278ed6bc8c9904b1eb413cf153db17e8bd3", checked := Tryz.checked }
namespace Rows
def none {H : Type} : Left H := { results := [], args := [] }

/-- 'cosignerlaw16.RegsWrites': WHATEVER THE INPUT: true; the input reads as it did. -/
def regsWritesSpec : ChangeSpec := { name := "regsWrites", fn := fun _ => fun
  | [d1, d2] => { results := [.lit (.bool true)], args := [d1, d2] }
  | _ => none }
def regsWritesRow : OpenClaim := { program := "ytgalekifgnecjaagreat", sum := "181bbec9e2f1688aae114bdee65aa278ed6bc8c9904b1eb413cf153db17e8bd3", func := "cosigner/cosignerlaw16.RegsWrites", spec := "regsWrites", unfollowed := true, recurses := true, plainKeys := false, apart := false }
def RegsWritesSaid : Prop := regsWritesRow.holds Tryz.pinned (OpenSpec.ofChange regsWritesSpec)

/-- ITS FALSE NEIGHBOUR: 'it returns false'. Refute it at one input. -/
def regsWritesWrong : ChangeSpec := { name := "regsWrites", fn := fun _ => fun
  | [d1, d2] => { results := [.lit (.bool false)], args := [d1, d2] }
  | _ => none }
def RegsWritesWrongFalsely : Prop := regsWritesRow.holds Tryz.pinned (OpenSpec.ofChange regsWritesWrong)

/-- 'cosignerlaw16.RegsChecks': WHATEVER THE INPUT: true; the input reads as it did. -/
def regsChecksSpec : ChangeSpec := { name := "regsChecks", fn := fun _ => fun
  | [d1, d2, d3] => { results := [.lit (.bool true)], args := [d1, d2, d3] }
  | _ => none }
def regsChecksRow : OpenClaim := { program := "ytgalekifgnecjaagreat", sum := "181bbec9e2f1688aae114bdee65aa278ed6bc8c9904b1eb413cf153db17e8bd3", func := "cosigner/cosignerlaw16.RegsChecks", spec := "regsChecks", unfollowed := true, recurses := true, plainKeys := false, apart := false }
def RegsChecksSaid : Prop := regsChecksRow.holds Tryz.pinned (OpenSpec.ofChange regsChecksSpec)

/-- ITS FALSE NEIGHBOUR: 'it returns false'. Refute it at one input. -/
def regsChecksWrong : ChangeSpec := { name := "regsChecks", fn := fun _ => fun
  | [d1, d2, d3] => { results := [.lit (.bool false)], args := [d1, d2, d3] }
  | _ => none }
def RegsChecksWrongFalsely : Prop := regsChecksRow.holds Tryz.pinned (OpenSpec.ofChange regsChecksWrong)

/-- 'cosignerlaw16.RegsApart': WHATEVER THE INPUT: true; the input reads as it did. -/
def regsApartSpec : ChangeSpec := { name := "regsApart", fn := fun _ => fun
  | [d1, d2, d3] => { results := [.lit (.bool true)], args := [d1, d2, d3] }
  | _ => none }
def regsApartRow : OpenClaim := { program := "ytgalekifgnecjaagreat", sum := "181bbec9e2f1688aae114bdee65aa278ed6bc8c9904b1eb413cf153db17e8bd3", func := "cosigner/cosignerlaw16.RegsApart", spec := "regsApart", unfollowed := true, recurses := true, plainKeys := false, apart := false }
def RegsApartSaid : Prop := regsApartRow.holds Tryz.pinned (OpenSpec.ofChange regsApartSpec)

/-- ITS FALSE NEIGHBOUR: 'it returns false'. Refute it at one input. -/
def regsApartWrong : ChangeSpec := { name := "regsApart", fn := fun _ => fun
  | [d1, d2, d3] => { results := [.lit (.bool false)], args := [d1, d2, d3] }
  | _ => none }
def RegsApartWrongFalsely : Prop := regsApartRow.holds Tryz.pinned (OpenSpec.ofChange regsApartWrong)

/-- 'cosignerlaw16.RegsRenames': WHATEVER THE INPUT: true; the input reads as it did. -/
def regsRenamesSpec : ChangeSpec := { name := "regsRenames", fn := fun _ => fun
  | [d1, d2] => { results := [.lit (.bool true)], args := [d1, d2] }
  | _ => none }
def regsRenamesRow : OpenClaim := { program := "ytgalekifgnecjaagreat", sum := "181bbec9e2f1688aae114bdee65aa278ed6bc8c9904b1eb413cf153db17e8bd3", func := "cosigner/cosignerlaw16.RegsRenames", spec := "regsRenames", unfollowed := true, recurses := true, plainKeys := false, apart := false }
def RegsRenamesSaid : Prop := regsRenamesRow.holds Tryz.pinned (OpenSpec.ofChange regsRenamesSpec)

/-- ITS FALSE NEIGHBOUR: 'it returns false'. Refute it at one input. -/
def regsRenamesWrong : ChangeSpec := { name := "regsRenames", fn := fun _ => fun
  | [d1, d2] => { results := [.lit (.bool false)], args := [d1, d2] }
  | _ => none }
def RegsRenamesWrongFalsely : Prop := regsRenamesRow.holds Tryz.pinned (OpenSpec.ofChange regsRenamesWrong)

/-- 'cosignerlaw16.RegsFew': WHATEVER THE INPUT: true; the input reads as it did. -/
def regsFewSpec : ChangeSpec := { name := "regsFew", fn := fun _ => fun
  | [d1, d2] => { results := [.lit (.bool true)], args := [d1, d2] }
  | _ => none }
def regsFewRow : OpenClaim := { program := "ytgalekifgnecjaagreat", sum := "181bbec9e2f1688aae114bdee65aa278ed6bc8c9904b1eb413cf153db17e8bd3", func := "cosigner/cosignerlaw16.RegsFew", spec := "regsFew", unfollowed := true, recurses := true, plainKeys := false, apart := false }
def RegsFewSaid : Prop := regsFewRow.holds Tryz.pinned (OpenSpec.ofChange regsFewSpec)

/-- ITS FALSE NEIGHBOUR: 'it returns false'. Refute it at one input. -/
def regsFewWrong : ChangeSpec := { name := "regsFew", fn := fun _ => fun
  | [d1, d2] => { results := [.lit (.bool false)], args := [d1, d2] }
  | _ => none }
def RegsFewWrongFalsely : Prop := regsFewRow.holds Tryz.pinned (OpenSpec.ofChange regsFewWrong)

/-- 'cosignerlaw16.RegsTells': WHATEVER THE INPUT: true; the input reads as it did. -/
def regsTellsSpec : ChangeSpec := { name := "regsTells", fn := fun _ => fun
  | [d] => { results := [.lit (.bool true)], args := [d] }
  | _ => none }
def regsTellsRow : OpenClaim := { program := "ytgalekifgnecjaagreat", sum := "181bbec9e2f1688aae114bdee65aa278ed6bc8c9904b1eb413cf153db17e8bd3", func := "cosigner/cosignerlaw16.RegsTells", spec := "regsTells", unfollowed := true, recurses := true, plainKeys := false, apart := false }
def RegsTellsSaid : Prop := regsTellsRow.holds Tryz.pinned (OpenSpec.ofChange regsTellsSpec)

/-- ITS FALSE NEIGHBOUR: 'it returns false'. Refute it at one input. -/
def regsTellsWrong : ChangeSpec := { name := "regsTells", fn := fun _ => fun
  | [d] => { results := [.lit (.bool false)], args := [d] }
  | _ => none }
def RegsTellsWrongFalsely : Prop := regsTellsRow.holds Tryz.pinned (OpenSpec.ofChange regsTellsWrong)

/-- 'cosignerlaw16.RegsPrograms': WHATEVER THE INPUT: true; the input reads as it did. -/
def regsProgramsSpec : ChangeSpec := { name := "regsPrograms", fn := fun _ => fun
  | [d1, d2, d3] => { results := [.lit (.bool true)], args := [d1, d2, d3] }
  | _ => none }
def regsProgramsRow : OpenClaim := { program := "ytgalekifgnecjaagreat", sum := "181bbec9e2f1688aae114bdee65aa278ed6bc8c9904b1eb413cf153db17e8bd3", func := "cosigner/cosignerlaw16.RegsPrograms", spec := "regsPrograms", unfollowed := true, recurses := true, plainKeys := false, apart := false }
def RegsProgramsSaid : Prop := regsProgramsRow.holds Tryz.pinned (OpenSpec.ofChange regsProgramsSpec)

/-- ITS FALSE NEIGHBOUR: 'it returns false'. Refute it at one input. -/
def regsProgramsWrong : ChangeSpec := { name := "regsPrograms", fn := fun _ => fun
  | [d1, d2, d3] => { results := [.lit (.bool false)], args := [d1, d2, d3] }
  | _ => none }
def RegsProgramsWrongFalsely : Prop := regsProgramsRow.holds Tryz.pinned (OpenSpec.ofChange regsProgramsWrong)

/-- 'cosignerlaw16.RegsStaysRight': WHATEVER THE INPUT: true; the input reads as it did. -/
def regsStaysRightSpec : ChangeSpec := { name := "regsStaysRight", fn := fun _ => fun
  | [d1, d2, d3, d4, d5] => { results := [.lit (.bool true)], args := [d1, d2, d3, d4, d5] }
  | _ => none }
def regsStaysRightRow : OpenClaim := { program := "ytgalekifgnecjaagreat", sum := "181bbec9e2f1688aae114bdee65aa278ed6bc8c9904b1eb413cf153db17e8bd3", func := "cosigner/cosignerlaw16.RegsStaysRight", spec := "regsStaysRight", unfollowed := true, recurses := true, plainKeys := false, apart := false }
def RegsStaysRightSaid : Prop := regsStaysRightRow.holds Tryz.pinned (OpenSpec.ofChange regsStaysRightSpec)

/-- ITS FALSE NEIGHBOUR: 'it returns false'. Refute it at one input. -/
def regsStaysRightWrong : ChangeSpec := { name := "regsStaysRight", fn := fun _ => fun
  | [d1, d2, d3, d4, d5] => { results := [.lit (.bool false)], args := [d1, d2, d3, d4, d5] }
  | _ => none }
def RegsStaysRightWrongFalsely : Prop := regsStaysRightRow.holds Tryz.pinned (OpenSpec.ofChange regsStaysRightWrong)

/- THE SECOND FORM. 'bulk': how many values and letters a reading holds, each counted each time it is reached (what is shared counts as often as it is met; a slice's spare places count too). A statement '..UptoSaid' is the law's where the arguments, and the package variables that the reading takes, are together of bulk at most 1048576: NARROWER than '..Said'. Prove '..Said' where nothing that the law and all that it calls make is longer than what came in: it says more and counts as full. Else prove '..UptoSaid'. A law counts once. -/
mutual
def uptoBulk {H : Type} : DataW H → Nat
  | .lit (.string bytes) => bytes.length + 1
  | .lit _ => 1
  | .nil => 1
  | .ptr d => uptoBulk d + 1
  | .slice elems spare => uptoBulkAll elems + uptoBulkAll spare + 1
  | .agg parts => uptoBulkAll parts + 1
  | .iface _ d => uptoBulk d + 1
  | .map entries => uptoBulkEntries entries + 1
  | .held _ => 1
def uptoBulkAll {H : Type} : List (DataW H) → Nat
  | [] => 0
  | d :: r => uptoBulk d + uptoBulkAll r
def uptoBulkEntries {H : Type} : List (Lit × DataW H) → Nat
  | [] => 0
  | x :: r => uptoBulkEntry x + uptoBulkEntries r
def uptoBulkEntry {H : Type} : Lit × DataW H → Nat
  | (.string bytes, d) => bytes.length + uptoBulk d + 1
  | (_, d) => uptoBulk d + 1
 end
def uptoSmall : (H : Type) → List (DataW H) → Bool := fun _ ds => decide (uptoBulkAll ds ≤ 1048576)
def OpenSpec.upto (s : _root_.Go.ChangeSpec) : _root_.Go.OpenSpec := { _root_.Go.OpenSpec.ofChange s with cond := some uptoSmall }

/-- 'cosignerlaw16.RegsWrites', WHERE WHAT IT READS IS OF BULK AT MOST 1048576: true; the input reads as it did. -/
def regsWritesUptoRow : OpenClaim := { program := "ytgalekifgnecjaagreat", sum := "181bbec9e2f1688aae114bdee65aa278ed6bc8c9904b1eb413cf153db17e8bd3", func := "cosigner/cosignerlaw16.RegsWrites", spec := "regsWrites", unfollowed := true, recurses := true, plainKeys := false, apart := false, narrowed := true }
def RegsWritesUptoSaid : Prop := regsWritesUptoRow.holds Tryz.pinned (OpenSpec.upto regsWritesSpec)

/-- 'cosignerlaw16.RegsChecks', WHERE WHAT IT READS IS OF BULK AT MOST 1048576: true; the input reads as it did. -/
def regsChecksUptoRow : OpenClaim := { program := "ytgalekifgnecjaagreat", sum := "181bbec9e2f1688aae114bdee65aa278ed6bc8c9904b1eb413cf153db17e8bd3", func := "cosigner/cosignerlaw16.RegsChecks", spec := "regsChecks", unfollowed := true, recurses := true, plainKeys := false, apart := false, narrowed := true }
def RegsChecksUptoSaid : Prop := regsChecksUptoRow.holds Tryz.pinned (OpenSpec.upto regsChecksSpec)

/-- 'cosignerlaw16.RegsApart', WHERE WHAT IT READS IS OF BULK AT MOST 1048576: true; the input reads as it did. -/
def regsApartUptoRow : OpenClaim := { program := "ytgalekifgnecjaagreat", sum := "181bbec9e2f1688aae114bdee65aa278ed6bc8c9904b1eb413cf153db17e8bd3", func := "cosigner/cosignerlaw16.RegsApart", spec := "regsApart", unfollowed := true, recurses := true, plainKeys := false, apart := false, narrowed := true }
def RegsApartUptoSaid : Prop := regsApartUptoRow.holds Tryz.pinned (OpenSpec.upto regsApartSpec)

/-- 'cosignerlaw16.RegsRenames', WHERE WHAT IT READS IS OF BULK AT MOST 1048576: true; the input reads as it did. -/
def regsRenamesUptoRow : OpenClaim := { program := "ytgalekifgnecjaagreat", sum := "181bbec9e2f1688aae114bdee65aa278ed6bc8c9904b1eb413cf153db17e8bd3", func := "cosigner/cosignerlaw16.RegsRenames", spec := "regsRenames", unfollowed := true, recurses := true, plainKeys := false, apart := false, narrowed := true }
def RegsRenamesUptoSaid : Prop := regsRenamesUptoRow.holds Tryz.pinned (OpenSpec.upto regsRenamesSpec)

/-- 'cosignerlaw16.RegsFew', WHERE WHAT IT READS IS OF BULK AT MOST 1048576: true; the input reads as it did. -/
def regsFewUptoRow : OpenClaim := { program := "ytgalekifgnecjaagreat", sum := "181bbec9e2f1688aae114bdee65aa278ed6bc8c9904b1eb413cf153db17e8bd3", func := "cosigner/cosignerlaw16.RegsFew", spec := "regsFew", unfollowed := true, recurses := true, plainKeys := false, apart := false, narrowed := true }
def RegsFewUptoSaid : Prop := regsFewUptoRow.holds Tryz.pinned (OpenSpec.upto regsFewSpec)

/-- 'cosignerlaw16.RegsTells', WHERE WHAT IT READS IS OF BULK AT MOST 1048576: true; the input reads as it did. -/
def regsTellsUptoRow : OpenClaim := { program := "ytgalekifgnecjaagreat", sum := "181bbec9e2f1688aae114bdee65aa278ed6bc8c9904b1eb413cf153db17e8bd3", func := "cosigner/cosignerlaw16.RegsTells", spec := "regsTells", unfollowed := true, recurses := true, plainKeys := false, apart := false, narrowed := true }
def RegsTellsUptoSaid : Prop := regsTellsUptoRow.holds Tryz.pinned (OpenSpec.upto regsTellsSpec)

/-- 'cosignerlaw16.RegsPrograms', WHERE WHAT IT READS IS OF BULK AT MOST 1048576: true; the input reads as it did. -/
def regsProgramsUptoRow : OpenClaim := { program := "ytgalekifgnecjaagreat", sum := "181bbec9e2f1688aae114bdee65aa278ed6bc8c9904b1eb413cf153db17e8bd3", func := "cosigner/cosignerlaw16.RegsPrograms", spec := "regsPrograms", unfollowed := true, recurses := true, plainKeys := false, apart := false, narrowed := true }
def RegsProgramsUptoSaid : Prop := regsProgramsUptoRow.holds Tryz.pinned (OpenSpec.upto regsProgramsSpec)

/-- 'cosignerlaw16.RegsStaysRight', WHERE WHAT IT READS IS OF BULK AT MOST 1048576: true; the input reads as it did. -/
def regsStaysRightUptoRow : OpenClaim := { program := "ytgalekifgnecjaagreat", sum := "181bbec9e2f1688aae114bdee65aa278ed6bc8c9904b1eb413cf153db17e8bd3", func := "cosigner/cosignerlaw16.RegsStaysRight", spec := "regsStaysRight", unfollowed := true, recurses := true, plainKeys := false, apart := false, narrowed := true }
def RegsStaysRightUptoSaid : Prop := regsStaysRightUptoRow.holds Tryz.pinned (OpenSpec.upto regsStaysRightSpec)

end Rows
end Go.Proofs.YtgalekifgnecjaaGreat
