/-
  No cell of these rows narrows 'for every input' (looked for: loops, veiled, ifaces, maps, wideKeys, modest, calm, conditions, laid).
  DERIVED. THE GIVEN ROWS OF THIS SEAT. 9 by the template 'for every input the law returns true; each argument reads behind the call as it read before'; 0 by the template 'total and deterministic' (their statements: YtjkkjdepmijpcaaTotals.lean).
  GIVEN WITH THE SEED: the statements are not yours to turn. If you find one false, say at which input.
  Laid BY PROGRAM, IN A SANDBOX (cutbox-rows.mjs): the forced cells as the released guide's own fill.sh prints them over the translation e9c98e4e34c5acac… (all of the seat's roots in one cut). By AI agents, Wed Nov 11 2026. No macro, syntax, notation, axiom, sorry.
-/
import Derived.Test.YtjkkjdepmijpcaaChecked
import GoSem.Claim
import GoSem.ClaimJoined
import GoSem.ClaimMapViews
import Derived.JoinedTies
import Derived.KernelRfl
namespace Go.Proofs.Ytjkkjdepmijpcaa
/- THE CELL 'sum', in the pinned program and in every row, IS THE sha256 OF THE DUMP (.gsa) THAT YtjkkjdepmijpcaaProg.lean LOADS. Nothing in Lean hashes anything: it is a label: what it is worth is what the hold of that sum in a sandbox is worth. -/
noncomputable def Try.pinned : Pinned := { name := "ytjkkjdepmijpcaa", sum := "e9c98e4e34c5acacb6028061693ff86e31fa32a018e5f4348779bb53d3bb3141", checked := Try.checked }
namespace Rows
def none {H : Type} : Left H := { results := [], args := [] }

/-- 'balefirelaw09.ScalarsWhole': WHATEVER THE INPUT: true; the input reads as it did. -/
def scalarsWholeSpec : ChangeSpec := { name := "scalarsWhole", fn := fun _ => fun
  | [d1, d2, d3] => { results := [.lit (.bool true)], args := [d1, d2, d3] }
  | _ => none }
def scalarsWholeRow : OpenClaim := { program := "ytjkkjdepmijpcaa", sum := "e9c98e4e34c5acacb6028061693ff86e31fa32a018e5f4348779bb53d3bb3141", func := "balefire/balefirelaw09.ScalarsWhole", spec := "scalarsWhole", inPlace := ["math/bits.Sub64", "math/bits.Add64"], unfollowed := true, recurses := true, named := ["math/bits.divideError", "math/bits.overflowError"], apart := false }
def ScalarsWholeSaid : Prop := scalarsWholeRow.holds Try.pinned (OpenSpec.ofChange scalarsWholeSpec)

/-- ITS FALSE NEIGHBOUR: 'it returns false'. Refute it at one input. -/
def scalarsWholeWrong : ChangeSpec := { name := "scalarsWhole", fn := fun _ => fun
  | [d1, d2, d3] => { results := [.lit (.bool false)], args := [d1, d2, d3] }
  | _ => none }
def ScalarsWholeWrongFalsely : Prop := scalarsWholeRow.holds Try.pinned (OpenSpec.ofChange scalarsWholeWrong)

/-- 'balefirelaw09.ScalarsNext': WHATEVER THE INPUT: true; the input reads as it did. -/
def scalarsNextSpec : ChangeSpec := { name := "scalarsNext", fn := fun _ => fun
  | [d1, d2] => { results := [.lit (.bool true)], args := [d1, d2] }
  | _ => none }
def scalarsNextRow : OpenClaim := { program := "ytjkkjdepmijpcaa", sum := "e9c98e4e34c5acacb6028061693ff86e31fa32a018e5f4348779bb53d3bb3141", func := "balefire/balefirelaw09.ScalarsNext", spec := "scalarsNext", inPlace := ["math/bits.Sub64", "math/bits.Add64"], unfollowed := true, recurses := true, named := ["math/bits.divideError", "math/bits.overflowError"], apart := false }
def ScalarsNextSaid : Prop := scalarsNextRow.holds Try.pinned (OpenSpec.ofChange scalarsNextSpec)

/-- ITS FALSE NEIGHBOUR: 'it returns false'. Refute it at one input. -/
def scalarsNextWrong : ChangeSpec := { name := "scalarsNext", fn := fun _ => fun
  | [d1, d2] => { results := [.lit (.bool false)], args := [d1, d2] }
  | _ => none }
def ScalarsNextWrongFalsely : Prop := scalarsNextRow.holds Try.pinned (OpenSpec.ofChange scalarsNextWrong)

/-- 'balefirelaw09.ScalarsUndo': WHATEVER THE INPUT: true; the input reads as it did. -/
def scalarsUndoSpec : ChangeSpec := { name := "scalarsUndo", fn := fun _ => fun
  | [d1, d2, d3] => { results := [.lit (.bool true)], args := [d1, d2, d3] }
  | _ => none }
def scalarsUndoRow : OpenClaim := { program := "ytjkkjdepmijpcaa", sum := "e9c98e4e34c5acacb6028061693ff86e31fa32a018e5f4348779bb53d3bb3141", func := "balefire/balefirelaw09.ScalarsUndo", spec := "scalarsUndo", inPlace := ["math/bits.Sub64", "math/bits.Add64"], unfollowed := true, recurses := true, named := ["math/bits.divideError", "math/bits.overflowError"], apart := false }
def ScalarsUndoSaid : Prop := scalarsUndoRow.holds Try.pinned (OpenSpec.ofChange scalarsUndoSpec)

/-- ITS FALSE NEIGHBOUR: 'it returns false'. Refute it at one input. -/
def scalarsUndoWrong : ChangeSpec := { name := "scalarsUndo", fn := fun _ => fun
  | [d1, d2, d3] => { results := [.lit (.bool false)], args := [d1, d2, d3] }
  | _ => none }
def ScalarsUndoWrongFalsely : Prop := scalarsUndoRow.holds Try.pinned (OpenSpec.ofChange scalarsUndoWrong)

/-- 'balefirelaw09.ScalarsParts': WHATEVER THE INPUT: true; the input reads as it did. -/
def scalarsPartsSpec : ChangeSpec := { name := "scalarsParts", fn := fun _ => fun
  | [d1, d2] => { results := [.lit (.bool true)], args := [d1, d2] }
  | _ => none }
def scalarsPartsRow : OpenClaim := { program := "ytjkkjdepmijpcaa", sum := "e9c98e4e34c5acacb6028061693ff86e31fa32a018e5f4348779bb53d3bb3141", func := "balefire/balefirelaw09.ScalarsParts", spec := "scalarsParts", inPlace := ["math/bits.Add64", "math/bits.Sub64"], unfollowed := true, recurses := true, named := ["math/bits.divideError", "math/bits.overflowError"], apart := false }
def ScalarsPartsSaid : Prop := scalarsPartsRow.holds Try.pinned (OpenSpec.ofChange scalarsPartsSpec)

/-- ITS FALSE NEIGHBOUR: 'it returns false'. Refute it at one input. -/
def scalarsPartsWrong : ChangeSpec := { name := "scalarsParts", fn := fun _ => fun
  | [d1, d2] => { results := [.lit (.bool false)], args := [d1, d2] }
  | _ => none }
def ScalarsPartsWrongFalsely : Prop := scalarsPartsRow.holds Try.pinned (OpenSpec.ofChange scalarsPartsWrong)

/-- 'balefirelaw07.PrimesWilson': WHATEVER THE INPUT: true; the input reads as it did. -/
def primesWilsonSpec : ChangeSpec := { name := "primesWilson", fn := fun _ => fun
  | [d] => { results := [.lit (.bool true)], args := [d] }
  | _ => none }
def primesWilsonRow : OpenClaim := { program := "ytjkkjdepmijpcaa", sum := "e9c98e4e34c5acacb6028061693ff86e31fa32a018e5f4348779bb53d3bb3141", func := "balefire/balefirelaw07.PrimesWilson", spec := "primesWilson", inPlace := ["math/bits.Add64", "math/bits.Sub64"], unfollowed := true, recurses := true, named := ["math/bits.divideError", "math/bits.overflowError"], apart := false }
def PrimesWilsonSaid : Prop := primesWilsonRow.holds Try.pinned (OpenSpec.ofChange primesWilsonSpec)

/-- ITS FALSE NEIGHBOUR: 'it returns false'. Refute it at one input. -/
def primesWilsonWrong : ChangeSpec := { name := "primesWilson", fn := fun _ => fun
  | [d] => { results := [.lit (.bool false)], args := [d] }
  | _ => none }
def PrimesWilsonWrongFalsely : Prop := primesWilsonRow.holds Try.pinned (OpenSpec.ofChange primesWilsonWrong)

/-- 'balefirelaw08.GroupsClosed': WHATEVER THE INPUT: true; the input reads as it did. -/
def groupsClosedSpec : ChangeSpec := { name := "groupsClosed", fn := fun _ => fun
  | [d1, d2, d3] => { results := [.lit (.bool true)], args := [d1, d2, d3] }
  | _ => none }
def groupsClosedRow : OpenClaim := { program := "ytjkkjdepmijpcaa", sum := "e9c98e4e34c5acacb6028061693ff86e31fa32a018e5f4348779bb53d3bb3141", func := "balefire/balefirelaw08.GroupsClosed", spec := "groupsClosed", inPlace := ["math/bits.Sub64", "math/bits.Add64"], unfollowed := true, recurses := true, named := ["math/bits.divideError", "math/bits.overflowError"], apart := false }
def GroupsClosedSaid : Prop := groupsClosedRow.holds Try.pinned (OpenSpec.ofChange groupsClosedSpec)

/-- ITS FALSE NEIGHBOUR: 'it returns false'. Refute it at one input. -/
def groupsClosedWrong : ChangeSpec := { name := "groupsClosed", fn := fun _ => fun
  | [d1, d2, d3] => { results := [.lit (.bool false)], args := [d1, d2, d3] }
  | _ => none }
def GroupsClosedWrongFalsely : Prop := groupsClosedRow.holds Try.pinned (OpenSpec.ofChange groupsClosedWrong)

/-- 'balefirelaw08.GroupsRound': WHATEVER THE INPUT: true; the input reads as it did. -/
def groupsRoundSpec : ChangeSpec := { name := "groupsRound", fn := fun _ => fun
  | [d1, d2, d3] => { results := [.lit (.bool true)], args := [d1, d2, d3] }
  | _ => none }
def groupsRoundRow : OpenClaim := { program := "ytjkkjdepmijpcaa", sum := "e9c98e4e34c5acacb6028061693ff86e31fa32a018e5f4348779bb53d3bb3141", func := "balefire/balefirelaw08.GroupsRound", spec := "groupsRound", inPlace := ["math/bits.Sub64", "math/bits.Add64"], unfollowed := true, recurses := true, named := ["math/bits.divideError", "math/bits.overflowError"], apart := false }
def GroupsRoundSaid : Prop := groupsRoundRow.holds Try.pinned (OpenSpec.ofChange groupsRoundSpec)

/-- ITS FALSE NEIGHBOUR: 'it returns false'. Refute it at one input. -/
def groupsRoundWrong : ChangeSpec := { name := "groupsRound", fn := fun _ => fun
  | [d1, d2, d3] => { results := [.lit (.bool false)], args := [d1, d2, d3] }
  | _ => none }
def GroupsRoundWrongFalsely : Prop := groupsRoundRow.holds Try.pinned (OpenSpec.ofChange groupsRoundWrong)

/-- 'balefirelaw08.GroupsProduct': WHATEVER THE INPUT: true; the input reads as it did. -/
def groupsProductSpec : ChangeSpec := { name := "groupsProduct", fn := fun _ => fun
  | [d1, d2, d3] => { results := [.lit (.bool true)], args := [d1, d2, d3] }
  | _ => none }
def groupsProductRow : OpenClaim := { program := "ytjkkjdepmijpcaa", sum := "e9c98e4e34c5acacb6028061693ff86e31fa32a018e5f4348779bb53d3bb3141", func := "balefire/balefirelaw08.GroupsProduct", spec := "groupsProduct", inPlace := ["math/bits.Sub64", "math/bits.Add64"], unfollowed := true, recurses := true, named := ["math/bits.divideError", "math/bits.overflowError"], apart := false }
def GroupsProductSaid : Prop := groupsProductRow.holds Try.pinned (OpenSpec.ofChange groupsProductSpec)

/-- ITS FALSE NEIGHBOUR: 'it returns false'. Refute it at one input. -/
def groupsProductWrong : ChangeSpec := { name := "groupsProduct", fn := fun _ => fun
  | [d1, d2, d3] => { results := [.lit (.bool false)], args := [d1, d2, d3] }
  | _ => none }
def GroupsProductWrongFalsely : Prop := groupsProductRow.holds Try.pinned (OpenSpec.ofChange groupsProductWrong)

/-- 'balefirelaw08.GroupsRoot': WHATEVER THE INPUT: true; the input reads as it did. -/
def groupsRootSpec : ChangeSpec := { name := "groupsRoot", fn := fun _ => fun
  | [d1, d2, d3] => { results := [.lit (.bool true)], args := [d1, d2, d3] }
  | _ => none }
def groupsRootRow : OpenClaim := { program := "ytjkkjdepmijpcaa", sum := "e9c98e4e34c5acacb6028061693ff86e31fa32a018e5f4348779bb53d3bb3141", func := "balefire/balefirelaw08.GroupsRoot", spec := "groupsRoot", inPlace := ["math/bits.Sub64", "math/bits.Add64"], unfollowed := true, recurses := true, named := ["math/bits.divideError", "math/bits.overflowError"], apart := false }
def GroupsRootSaid : Prop := groupsRootRow.holds Try.pinned (OpenSpec.ofChange groupsRootSpec)

/-- ITS FALSE NEIGHBOUR: 'it returns false'. Refute it at one input. -/
def groupsRootWrong : ChangeSpec := { name := "groupsRoot", fn := fun _ => fun
  | [d1, d2, d3] => { results := [.lit (.bool false)], args := [d1, d2, d3] }
  | _ => none }
def GroupsRootWrongFalsely : Prop := groupsRootRow.holds Try.pinned (OpenSpec.ofChange groupsRootWrong)

/- THE SECOND FORM. 'bulk': how many values and letters a reading holds, each counted each time it is reached (what is shared counts as often as it is met; a slice's spare places count too). A statement '..UptoSaid' is the law's where the arguments, and the package variables that the reading takes, are together of bulk at most 1048576: NARROWER than '..Said'. Prove '..Said' where nothing that the law and all that it calls make is longer than what came in: it says more and counts as full. Else prove '..UptoSaid'. A law counts once. -/
mutual
def uptoBulk {H : Type} : DataW H → Nat
  | .lit (.string bytes) => bytes.length + 1
  | .lit _ => 1
  | .nil => 1
  | .ptr d => uptoBulk d + 1
  | .slice elems spare => uptoBulkAll elems + uptoBulkAll spare + 1
  | .agg parts => uptoBulkAll parts + 1
  | .iface _ d => uptoBulk d + 1
  | .map entries => uptoBulkEntries entries + 1
  | .held _ => 1
def uptoBulkAll {H : Type} : List (DataW H) → Nat
  | [] => 0
  | d :: r => uptoBulk d + uptoBulkAll r
def uptoBulkEntries {H : Type} : List (Lit × DataW H) → Nat
  | [] => 0
  | x :: r => uptoBulkEntry x + uptoBulkEntries r
def uptoBulkEntry {H : Type} : Lit × DataW H → Nat
  | (.string bytes, d) => bytes.length + uptoBulk d + 1
  | (_, d) => uptoBulk d + 1
 end
def uptoSmall : (H : Type) → List (DataW H) → Bool := fun _ ds => decide (uptoBulkAll ds ≤ 1048576)
def OpenSpec.upto (s : _root_.Go.ChangeSpec) : _root_.Go.OpenSpec := { _root_.Go.OpenSpec.ofChange s with cond := some uptoSmall }

/-- 'balefirelaw09.ScalarsWhole', WHERE WHAT IT READS IS OF BULK AT MOST 1048576: true; the input reads as it did. -/
def scalarsWholeUptoRow : OpenClaim := { program := "ytjkkjdepmijpcaa", sum := "e9c98e4e34c5acacb6028061693ff86e31fa32a018e5f4348779bb53d3bb3141", func := "balefire/balefirelaw09.ScalarsWhole", spec := "scalarsWhole", inPlace := ["math/bits.Sub64", "math/bits.Add64"], unfollowed := true, recurses := true, named := ["math/bits.divideError", "math/bits.overflowError"], apart := false, narrowed := true }
def ScalarsWholeUptoSaid : Prop := scalarsWholeUptoRow.holds Try.pinned (OpenSpec.upto scalarsWholeSpec)

/-- 'balefirelaw09.ScalarsNext', WHERE WHAT IT READS IS OF BULK AT MOST 1048576: true; the input reads as it did. -/
def scalarsNextUptoRow : OpenClaim := { program := "ytjkkjdepmijpcaa", sum := "e9c98e4e34c5acacb6028061693ff86e31fa32a018e5f4348779bb53d3bb3141", func := "balefire/balefirelaw09.ScalarsNext", spec := "scalarsNext", inPlace := ["math/bits.Sub64", "math/bits.Add64"], unfollowed := true, recurses := true, named := ["math/bits.divideError", "math/bits.overflowError"], apart := false, narrowed := true }
def ScalarsNextUptoSaid : Prop := scalarsNextUptoRow.holds Try.pinned (OpenSpec.upto scalarsNextSpec)

/-- 'balefirelaw09.ScalarsUndo', WHERE WHAT IT READS IS OF BULK AT MOST 1048576: true; the input reads as it did. -/
def scalarsUndoUptoRow : OpenClaim := { program := "ytjkkjdepmijpcaa", sum := "e9c98e4e34c5acacb6028061693ff86e31fa32a018e5f4348779bb53d3bb3141", func := "balefire/balefirelaw09.ScalarsUndo", spec := "scalarsUndo", inPlace := ["math/bits.Sub64", "math/bits.Add64"], unfollowed := true, recurses := true, named := ["math/bits.divideError", "math/bits.overflowError"], apart := false, narrowed := true }
def ScalarsUndoUptoSaid : Prop := scalarsUndoUptoRow.holds Try.pinned (OpenSpec.upto scalarsUndoSpec)

/-- 'balefirelaw09.ScalarsParts', WHERE WHAT IT READS IS OF BULK AT MOST 1048576: true; the input reads as it did. -/
def scalarsPartsUptoRow : OpenClaim := { program := "ytjkkjdepmijpcaa", sum := "e9c98e4e34c5acacb6028061693ff86e31fa32a018e5f4348779bb53d3bb3141", func := "balefire/balefirelaw09.ScalarsParts", spec := "scalarsParts", inPlace := ["math/bits.Add64", "math/bits.Sub64"], unfollowed := true, recurses := true, named := ["math/bits.divideError", "math/bits.overflowError"], apart := false, narrowed := true }
def ScalarsPartsUptoSaid : Prop := scalarsPartsUptoRow.holds Try.pinned (OpenSpec.upto scalarsPartsSpec)

/-- 'balefirelaw07.PrimesWilson', WHERE WHAT IT READS IS OF BULK AT MOST 1048576: true; the input reads as it did. -/
def primesWilsonUptoRow : OpenClaim := { program := "ytjkkjdepmijpcaa", sum := "e9c98e4e34c5acacb6028061693ff86e31fa32a018e5f4348779bb53d3bb3141", func := "balefire/balefirelaw07.PrimesWilson", spec := "primesWilson", inPlace := ["math/bits.Add64", "math/bits.Sub64"], unfollowed := true, recurses := true, named := ["math/bits.divideError", "math/bits.overflowError"], apart := false, narrowed := true }
def PrimesWilsonUptoSaid : Prop := primesWilsonUptoRow.holds Try.pinned (OpenSpec.upto primesWilsonSpec)

/-- 'balefirelaw08.GroupsClosed', WHERE WHAT IT READS IS OF BULK AT MOST 1048576: true; the input reads as it did. -/
def groupsClosedUptoRow : OpenClaim := { program := "ytjkkjdepmijpcaa", sum := "e9c98e4e34c5acacb6028061693ff86e31fa32a018e5f4348779bb53d3bb3141", func := "balefire/balefirelaw08.GroupsClosed", spec := "groupsClosed", inPlace := ["math/bits.Sub64", "math/bits.Add64"], unfollowed := true, recurses := true, named := ["math/bits.divideError", "math/bits.overflowError"], apart := false, narrowed := true }
def GroupsClosedUptoSaid : Prop := groupsClosedUptoRow.holds Try.pinned (OpenSpec.upto groupsClosedSpec)

/-- 'balefirelaw08.GroupsRound', WHERE WHAT IT READS IS OF BULK AT MOST 1048576: true; the input reads as it did. -/
def groupsRoundUptoRow : OpenClaim := { program := "ytjkkjdepmijpcaa", sum := "e9c98e4e34c5acacb6028061693ff86e31fa32a018e5f4348779bb53d3bb3141", func := "balefire/balefirelaw08.GroupsRound", spec := "groupsRound", inPlace := ["math/bits.Sub64", "math/bits.Add64"], unfollowed := true, recurses := true, named := ["math/bits.divideError", "math/bits.overflowError"], apart := false, narrowed := true }
def GroupsRoundUptoSaid : Prop := groupsRoundUptoRow.holds Try.pinned (OpenSpec.upto groupsRoundSpec)

/-- 'balefirelaw08.GroupsProduct', WHERE WHAT IT READS IS OF BULK AT MOST 1048576: true; the input reads as it did. -/
def groupsProductUptoRow : OpenClaim := { program := "ytjkkjdepmijpcaa", sum := "e9c98e4e34c5acacb6028061693ff86e31fa32a018e5f4348779bb53d3bb3141", func := "balefire/balefirelaw08.GroupsProduct", spec := "groupsProduct", inPlace := ["math/bits.Sub64", "math/bits.Add64"], unfollowed := true, recurses := true, named := ["math/bits.divideError", "math/bits.overflowError"], apart := false, narrowed := true }
def GroupsProductUptoSaid : Prop := groupsProductUptoRow.holds Try.pinned (OpenSpec.upto groupsProductSpec)

/-- 'balefirelaw08.GroupsRoot', WHERE WHAT IT READS IS OF BULK AT MOST 1048576: true; the input reads as it did. -/
def groupsRootUptoRow : OpenClaim := { program := "ytjkkjdepmijpcaa", sum := "e9c98e4e34c5acacb6028061693ff86e31fa32a018e5f4348779bb53d3bb3141", func := "balefire/balefirelaw08.GroupsRoot", spec := "groupsRoot", inPlace := ["math/bits.Sub64", "math/bits.Add64"], unfollowed := true, recurses := true, named := ["math/bits.divideError", "math/bits.overflowError"], apart := false, narrowed := true }
def GroupsRootUptoSaid : Prop := groupsRootUptoRow.holds Try.pinned (OpenSpec.upto groupsRootSpec)

end Rows
end Go.Proofs.Ytjkkjdepmijpcaa
