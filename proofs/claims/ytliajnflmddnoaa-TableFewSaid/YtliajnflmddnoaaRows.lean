/-
  No cell of these rows narrows 'for every input' (looked for: loops, veiled, ifaces, maps, wideKeys, modest, calm, conditions, laid).
  DERIVED. THE GIVEN ROWS OF THIS SEAT. 10 by the template 'for every input the law returns true; each argument reads behind the call as it read before'; 0 by the template 'total and deterministic' (their statements: YtliajnflmddnoaaTotals.lean).
  GIVEN WITH THE SEED: the statements are not yours to turn. If you find one false, say at which input.
  Laid BY PROGRAM, IN A SANDBOX (cutbox-rows.mjs): the forced cells as the released guide's own fill.sh prints them over the translation 666e87bb59518a11… (all of the seat's roots in one cut). By AI agents, Wed Nov 11 2026. No macro, syntax, notation, axiom, sorry.
-/
import Derived.Test.YtliajnflmddnoaaChecked
import GoSem.Claim
import GoSem.ClaimJoined
import GoSem.ClaimMapViews
import Derived.JoinedTies
import Derived.KernelRfl
namespace Go.Proofs.Ytliajnflmddnoaa
/- THE CELL 'sum', in the pinned program and in every row, IS THE sha256 OF THE DUMP (.gsa) THAT YtliajnflmddnoaaProg.lean LOADS. Nothing in Lean hashes anything: it is a label: what it is worth is what the hold of that sum in a sandbox is worth. -/
noncomputable def Try.pinned : Pinned := { name := "ytliajnflmddnoaa", sum := "666e87bb59518a111dbd5c69948e981d4791ed7ddb5f065fd887c817cb100a38", checked := Try.checked }
namespace Rows
def none {H : Type} : Left H := { results := [], args := [] }

/-- 'cosignerlaw18.TableFolds': WHATEVER THE INPUT: true; the input reads as it did. -/
def tableFoldsSpec : ChangeSpec := { name := "tableFolds", fn := fun _ => fun
  | [d1, d2, d3, d4] => { results := [.lit (.bool true)], args := [d1, d2, d3, d4] }
  | _ => none }
def tableFoldsRow : OpenClaim := { program := "ytliajnflmddnoaa", sum := "666e87bb59518a111dbd5c69948e981d4791ed7ddb5f065fd887c817cb100a38", func := "cosigner/cosignerlaw18.TableFolds", spec := "tableFolds", unfollowed := true, recurses := true, apart := false }
def TableFoldsSaid : Prop := tableFoldsRow.holds Try.pinned (OpenSpec.ofChange tableFoldsSpec)

/-- ITS FALSE NEIGHBOUR: 'it returns false'. Refute it at one input. -/
def tableFoldsWrong : ChangeSpec := { name := "tableFolds", fn := fun _ => fun
  | [d1, d2, d3, d4] => { results := [.lit (.bool false)], args := [d1, d2, d3, d4] }
  | _ => none }
def TableFoldsWrongFalsely : Prop := tableFoldsRow.holds Try.pinned (OpenSpec.ofChange tableFoldsWrong)

/-- 'cosignerlaw18.TableLays': WHATEVER THE INPUT: true; the input reads as it did. -/
def tableLaysSpec : ChangeSpec := { name := "tableLays", fn := fun _ => fun
  | [d] => { results := [.lit (.bool true)], args := [d] }
  | _ => none }
def tableLaysRow : OpenClaim := { program := "ytliajnflmddnoaa", sum := "666e87bb59518a111dbd5c69948e981d4791ed7ddb5f065fd887c817cb100a38", func := "cosigner/cosignerlaw18.TableLays", spec := "tableLays", unfollowed := true, recurses := true, apart := false }
def TableLaysSaid : Prop := tableLaysRow.holds Try.pinned (OpenSpec.ofChange tableLaysSpec)

/-- ITS FALSE NEIGHBOUR: 'it returns false'. Refute it at one input. -/
def tableLaysWrong : ChangeSpec := { name := "tableLays", fn := fun _ => fun
  | [d] => { results := [.lit (.bool false)], args := [d] }
  | _ => none }
def TableLaysWrongFalsely : Prop := tableLaysRow.holds Try.pinned (OpenSpec.ofChange tableLaysWrong)

/-- 'cosignerlaw18.TableChanges': WHATEVER THE INPUT: true; the input reads as it did. -/
def tableChangesSpec : ChangeSpec := { name := "tableChanges", fn := fun _ => fun
  | [d1, d2, d3] => { results := [.lit (.bool true)], args := [d1, d2, d3] }
  | _ => none }
def tableChangesRow : OpenClaim := { program := "ytliajnflmddnoaa", sum := "666e87bb59518a111dbd5c69948e981d4791ed7ddb5f065fd887c817cb100a38", func := "cosigner/cosignerlaw18.TableChanges", spec := "tableChanges", unfollowed := true, recurses := true, apart := false }
def TableChangesSaid : Prop := tableChangesRow.holds Try.pinned (OpenSpec.ofChange tableChangesSpec)

/-- ITS FALSE NEIGHBOUR: 'it returns false'. Refute it at one input. -/
def tableChangesWrong : ChangeSpec := { name := "tableChanges", fn := fun _ => fun
  | [d1, d2, d3] => { results := [.lit (.bool false)], args := [d1, d2, d3] }
  | _ => none }
def TableChangesWrongFalsely : Prop := tableChangesRow.holds Try.pinned (OpenSpec.ofChange tableChangesWrong)

/-- 'cosignerlaw18.TableRoom': WHATEVER THE INPUT: true; the input reads as it did. -/
def tableRoomSpec : ChangeSpec := { name := "tableRoom", fn := fun _ => fun
  | [d] => { results := [.lit (.bool true)], args := [d] }
  | _ => none }
def tableRoomRow : OpenClaim := { program := "ytliajnflmddnoaa", sum := "666e87bb59518a111dbd5c69948e981d4791ed7ddb5f065fd887c817cb100a38", func := "cosigner/cosignerlaw18.TableRoom", spec := "tableRoom", unfollowed := true, recurses := true, apart := false }
def TableRoomSaid : Prop := tableRoomRow.holds Try.pinned (OpenSpec.ofChange tableRoomSpec)

/-- ITS FALSE NEIGHBOUR: 'it returns false'. Refute it at one input. -/
def tableRoomWrong : ChangeSpec := { name := "tableRoom", fn := fun _ => fun
  | [d] => { results := [.lit (.bool false)], args := [d] }
  | _ => none }
def TableRoomWrongFalsely : Prop := tableRoomRow.holds Try.pinned (OpenSpec.ofChange tableRoomWrong)

/-- 'cosignerlaw18.TableChanged': WHATEVER THE INPUT: true; the input reads as it did. -/
def tableChangedSpec : ChangeSpec := { name := "tableChanged", fn := fun _ => fun
  | [d1, d2, d3, d4, d5] => { results := [.lit (.bool true)], args := [d1, d2, d3, d4, d5] }
  | _ => none }
def tableChangedRow : OpenClaim := { program := "ytliajnflmddnoaa", sum := "666e87bb59518a111dbd5c69948e981d4791ed7ddb5f065fd887c817cb100a38", func := "cosigner/cosignerlaw18.TableChanged", spec := "tableChanged", unfollowed := true, recurses := true, apart := false }
def TableChangedSaid : Prop := tableChangedRow.holds Try.pinned (OpenSpec.ofChange tableChangedSpec)

/-- ITS FALSE NEIGHBOUR: 'it returns false'. Refute it at one input. -/
def tableChangedWrong : ChangeSpec := { name := "tableChanged", fn := fun _ => fun
  | [d1, d2, d3, d4, d5] => { results := [.lit (.bool false)], args := [d1, d2, d3, d4, d5] }
  | _ => none }
def TableChangedWrongFalsely : Prop := tableChangedRow.holds Try.pinned (OpenSpec.ofChange tableChangedWrong)

/-- 'cosignerlaw18.TableByRows': WHATEVER THE INPUT: true; the input reads as it did. -/
def tableByRowsSpec : ChangeSpec := { name := "tableByRows", fn := fun _ => fun
  | [d] => { results := [.lit (.bool true)], args := [d] }
  | _ => none }
def tableByRowsRow : OpenClaim := { program := "ytliajnflmddnoaa", sum := "666e87bb59518a111dbd5c69948e981d4791ed7ddb5f065fd887c817cb100a38", func := "cosigner/cosignerlaw18.TableByRows", spec := "tableByRows", unfollowed := true, recurses := true, apart := false }
def TableByRowsSaid : Prop := tableByRowsRow.holds Try.pinned (OpenSpec.ofChange tableByRowsSpec)

/-- ITS FALSE NEIGHBOUR: 'it returns false'. Refute it at one input. -/
def tableByRowsWrong : ChangeSpec := { name := "tableByRows", fn := fun _ => fun
  | [d] => { results := [.lit (.bool false)], args := [d] }
  | _ => none }
def TableByRowsWrongFalsely : Prop := tableByRowsRow.holds Try.pinned (OpenSpec.ofChange tableByRowsWrong)

/-- 'cosignerlaw18.TableLooks': WHATEVER THE INPUT: true; the input reads as it did. -/
def tableLooksSpec : ChangeSpec := { name := "tableLooks", fn := fun _ => fun
  | [d1, d2, d3] => { results := [.lit (.bool true)], args := [d1, d2, d3] }
  | _ => none }
def tableLooksRow : OpenClaim := { program := "ytliajnflmddnoaa", sum := "666e87bb59518a111dbd5c69948e981d4791ed7ddb5f065fd887c817cb100a38", func := "cosigner/cosignerlaw18.TableLooks", spec := "tableLooks", unfollowed := true, recurses := true, apart := false }
def TableLooksSaid : Prop := tableLooksRow.holds Try.pinned (OpenSpec.ofChange tableLooksSpec)

/-- ITS FALSE NEIGHBOUR: 'it returns false'. Refute it at one input. -/
def tableLooksWrong : ChangeSpec := { name := "tableLooks", fn := fun _ => fun
  | [d1, d2, d3] => { results := [.lit (.bool false)], args := [d1, d2, d3] }
  | _ => none }
def TableLooksWrongFalsely : Prop := tableLooksRow.holds Try.pinned (OpenSpec.ofChange tableLooksWrong)

/-- 'cosignerlaw18.TableSame': WHATEVER THE INPUT: true; the input reads as it did. -/
def tableSameSpec : ChangeSpec := { name := "tableSame", fn := fun _ => fun
  | [d1, d2, d3] => { results := [.lit (.bool true)], args := [d1, d2, d3] }
  | _ => none }
def tableSameRow : OpenClaim := { program := "ytliajnflmddnoaa", sum := "666e87bb59518a111dbd5c69948e981d4791ed7ddb5f065fd887c817cb100a38", func := "cosigner/cosignerlaw18.TableSame", spec := "tableSame", unfollowed := true, recurses := true, apart := false }
def TableSameSaid : Prop := tableSameRow.holds Try.pinned (OpenSpec.ofChange tableSameSpec)

/-- ITS FALSE NEIGHBOUR: 'it returns false'. Refute it at one input. -/
def tableSameWrong : ChangeSpec := { name := "tableSame", fn := fun _ => fun
  | [d1, d2, d3] => { results := [.lit (.bool false)], args := [d1, d2, d3] }
  | _ => none }
def TableSameWrongFalsely : Prop := tableSameRow.holds Try.pinned (OpenSpec.ofChange tableSameWrong)

/-- 'cosignerlaw18.TableColours': WHATEVER THE INPUT: true; the input reads as it did. -/
def tableColoursSpec : ChangeSpec := { name := "tableColours", fn := fun _ => fun
  | [d1, d2, d3, d4] => { results := [.lit (.bool true)], args := [d1, d2, d3, d4] }
  | _ => none }
def tableColoursRow : OpenClaim := { program := "ytliajnflmddnoaa", sum := "666e87bb59518a111dbd5c69948e981d4791ed7ddb5f065fd887c817cb100a38", func := "cosigner/cosignerlaw18.TableColours", spec := "tableColours", unfollowed := true, recurses := true, apart := false }
def TableColoursSaid : Prop := tableColoursRow.holds Try.pinned (OpenSpec.ofChange tableColoursSpec)

/-- ITS FALSE NEIGHBOUR: 'it returns false'. Refute it at one input. -/
def tableColoursWrong : ChangeSpec := { name := "tableColours", fn := fun _ => fun
  | [d1, d2, d3, d4] => { results := [.lit (.bool false)], args := [d1, d2, d3, d4] }
  | _ => none }
def TableColoursWrongFalsely : Prop := tableColoursRow.holds Try.pinned (OpenSpec.ofChange tableColoursWrong)

/-- 'cosignerlaw18.TableFew': WHATEVER THE INPUT: true; the input reads as it did. -/
def tableFewSpec : ChangeSpec := { name := "tableFew", fn := fun _ => fun
  | [d1, d2] => { results := [.lit (.bool true)], args := [d1, d2] }
  | _ => none }
def tableFewRow : OpenClaim := { program := "ytliajnflmddnoaa", sum := "666e87bb59518a111dbd5c69948e981d4791ed7ddb5f065fd887c817cb100a38", func := "cosigner/cosignerlaw18.TableFew", spec := "tableFew", unfollowed := true, recurses := true, apart := false }
def TableFewSaid : Prop := tableFewRow.holds Try.pinned (OpenSpec.ofChange tableFewSpec)

/-- ITS FALSE NEIGHBOUR: 'it returns false'. Refute it at one input. -/
def tableFewWrong : ChangeSpec := { name := "tableFew", fn := fun _ => fun
  | [d1, d2] => { results := [.lit (.bool false)], args := [d1, d2] }
  | _ => none }
def TableFewWrongFalsely : Prop := tableFewRow.holds Try.pinned (OpenSpec.ofChange tableFewWrong)

/- THE SECOND FORM. 'bulk': how many values and letters a reading holds, each counted each time it is reached (what is shared counts as often as it is met; a slice's spare places count too). A statement '..UptoSaid' is the law's where the arguments, and the package variables that the reading takes, are together of bulk at most 1048576: NARROWER than '..Said'. Prove '..Said' where nothing that the law and all that it calls make is longer than what came in: it says more and counts as full. Else prove '..UptoSaid'. A law counts once. -/
mutual
def uptoBulk {H : Type} : DataW H → Nat
  | .lit (.string bytes) => bytes.length + 1
  | .lit _ => 1
  | .nil => 1
  | .ptr d => uptoBulk d + 1
  | .slice elems spare => uptoBulkAll elems + uptoBulkAll spare + 1
  | .agg parts => uptoBulkAll parts + 1
  | .iface _ d => uptoBulk d + 1
  | .map entries => uptoBulkEntries entries + 1
  | .held _ => 1
def uptoBulkAll {H : Type} : List (DataW H) → Nat
  | [] => 0
  | d :: r => uptoBulk d + uptoBulkAll r
def uptoBulkEntries {H : Type} : List (Lit × DataW H) → Nat
  | [] => 0
  | x :: r => uptoBulkEntry x + uptoBulkEntries r
def uptoBulkEntry {H : Type} : Lit × DataW H → Nat
  | (.string bytes, d) => bytes.length + uptoBulk d + 1
  | (_, d) => uptoBulk d + 1
 end
def uptoSmall : (H : Type) → List (DataW H) → Bool := fun _ ds => decide (uptoBulkAll ds ≤ 1048576)
def OpenSpec.upto (s : _root_.Go.ChangeSpec) : _root_.Go.OpenSpec := { _root_.Go.OpenSpec.ofChange s with cond := some uptoSmall }

/-- 'cosignerlaw18.TableFolds', WHERE WHAT IT READS IS OF BULK AT MOST 1048576: true; the input reads as it did. -/
def tableFoldsUptoRow : OpenClaim := { program := "ytliajnflmddnoaa", sum := "666e87bb59518a111dbd5c69948e981d4791ed7ddb5f065fd887c817cb100a38", func := "cosigner/cosignerlaw18.TableFolds", spec := "tableFolds", unfollowed := true, recurses := true, apart := false, narrowed := true }
def TableFoldsUptoSaid : Prop := tableFoldsUptoRow.holds Try.pinned (OpenSpec.upto tableFoldsSpec)

/-- 'cosignerlaw18.TableLays', WHERE WHAT IT READS IS OF BULK AT MOST 1048576: true; the input reads as it did. -/
def tableLaysUptoRow : OpenClaim := { program := "ytliajnflmddnoaa", sum := "666e87bb59518a111dbd5c69948e981d4791ed7ddb5f065fd887c817cb100a38", func := "cosigner/cosignerlaw18.TableLays", spec := "tableLays", unfollowed := true, recurses := true, apart := false, narrowed := true }
def TableLaysUptoSaid : Prop := tableLaysUptoRow.holds Try.pinned (OpenSpec.upto tableLaysSpec)

/-- 'cosignerlaw18.TableChanges', WHERE WHAT IT READS IS OF BULK AT MOST 1048576: true; the input reads as it did. -/
def tableChangesUptoRow : OpenClaim := { program := "ytliajnflmddnoaa", sum := "666e87bb59518a111dbd5c69948e981d4791ed7ddb5f065fd887c817cb100a38", func := "cosigner/cosignerlaw18.TableChanges", spec := "tableChanges", unfollowed := true, recurses := true, apart := false, narrowed := true }
def TableChangesUptoSaid : Prop := tableChangesUptoRow.holds Try.pinned (OpenSpec.upto tableChangesSpec)

/-- 'cosignerlaw18.TableRoom', WHERE WHAT IT READS IS OF BULK AT MOST 1048576: true; the input reads as it did. -/
def tableRoomUptoRow : OpenClaim := { program := "ytliajnflmddnoaa", sum := "666e87bb59518a111dbd5c69948e981d4791ed7ddb5f065fd887c817cb100a38", func := "cosigner/cosignerlaw18.TableRoom", spec := "tableRoom", unfollowed := true, recurses := true, apart := false, narrowed := true }
def TableRoomUptoSaid : Prop := tableRoomUptoRow.holds Try.pinned (OpenSpec.upto tableRoomSpec)

/-- 'cosignerlaw18.TableChanged', WHERE WHAT IT READS IS OF BULK AT MOST 1048576: true; the input reads as it did. -/
def tableChangedUptoRow : OpenClaim := { program := "ytliajnflmddnoaa", sum := "666e87bb59518a111dbd5c69948e981d4791ed7ddb5f065fd887c817cb100a38", func := "cosigner/cosignerlaw18.TableChanged", spec := "tableChanged", unfollowed := true, recurses := true, apart := false, narrowed := true }
def TableChangedUptoSaid : Prop := tableChangedUptoRow.holds Try.pinned (OpenSpec.upto tableChangedSpec)

/-- 'cosignerlaw18.TableByRows', WHERE WHAT IT READS IS OF BULK AT MOST 1048576: true; the input reads as it did. -/
def tableByRowsUptoRow : OpenClaim := { program := "ytliajnflmddnoaa", sum := "666e87bb59518a111dbd5c69948e981d4791ed7ddb5f065fd887c817cb100a38", func := "cosigner/cosignerlaw18.TableByRows", spec := "tableByRows", unfollowed := true, recurses := true, apart := false, narrowed := true }
def TableByRowsUptoSaid : Prop := tableByRowsUptoRow.holds Try.pinned (OpenSpec.upto tableByRowsSpec)

/-- 'cosignerlaw18.TableLooks', WHERE WHAT IT READS IS OF BULK AT MOST 1048576: true; the input reads as it did. -/
def tableLooksUptoRow : OpenClaim := { program := "ytliajnflmddnoaa", sum := "666e87bb59518a111dbd5c69948e981d4791ed7ddb5f065fd887c817cb100a38", func := "cosigner/cosignerlaw18.TableLooks", spec := "tableLooks", unfollowed := true, recurses := true, apart := false, narrowed := true }
def TableLooksUptoSaid : Prop := tableLooksUptoRow.holds Try.pinned (OpenSpec.upto tableLooksSpec)

/-- 'cosignerlaw18.TableSame', WHERE WHAT IT READS IS OF BULK AT MOST 1048576: true; the input reads as it did. -/
def tableSameUptoRow : OpenClaim := { program := "ytliajnflmddnoaa", sum := "666e87bb59518a111dbd5c69948e981d4791ed7ddb5f065fd887c817cb100a38", func := "cosigner/cosignerlaw18.TableSame", spec := "tableSame", unfollowed := true, recurses := true, apart := false, narrowed := true }
def TableSameUptoSaid : Prop := tableSameUptoRow.holds Try.pinned (OpenSpec.upto tableSameSpec)

/-- 'cosignerlaw18.TableColours', WHERE WHAT IT READS IS OF BULK AT MOST 1048576: true; the input reads as it did. -/
def tableColoursUptoRow : OpenClaim := { program := "ytliajnflmddnoaa", sum := "666e87bb59518a111dbd5c69948e981d4791ed7ddb5f065fd887c817cb100a38", func := "cosigner/cosignerlaw18.TableColours", spec := "tableColours", unfollowed := true, recurses := true, apart := false, narrowed := true }
def TableColoursUptoSaid : Prop := tableColoursUptoRow.holds Try.pinned (OpenSpec.upto tableColoursSpec)

/-- 'cosignerlaw18.TableFew', WHERE WHAT IT READS IS OF BULK AT MOST 1048576: true; the input reads as it did. -/
def tableFewUptoRow : OpenClaim := { program := "ytliajnflmddnoaa", sum := "666e87bb59518a111dbd5c69948e981d4791ed7ddb5f065fd887c817cb100a38", func := "cosigner/cosignerlaw18.TableFew", spec := "tableFew", unfollowed := true, recurses := true, apart := false, narrowed := true }
def TableFewUptoSaid : Prop := tableFewUptoRow.holds Try.pinned (OpenSpec.upto tableFewSpec)

end Rows
end Go.Proofs.Ytliajnflmddnoaa
