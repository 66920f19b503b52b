/-
  No cell of these rows narrows 'for every input' (looked for: loops, veiled, ifaces, maps, wideKeys, modest, calm, conditions, laid).
  DERIVED. THE GIVEN ROWS OF THIS SEAT. 6 by the template 'for every input the law returns true; each argument reads behind the call as it read before'; 0 by the template 'total and deterministic' (their statements: YtgfoeongjhkdmaaTotals.lean).
  GIVEN WITH THE SEED: the statements are not yours to turn. If you find one false, say at which input.
  Laid BY PROGRAM, IN A SANDBOX (cutbox-rows.mjs): the forced cells as the released guide's own fill.sh prints them over the translation 0c999ed09793db0c… (all of the seat's roots in one cut). By AI agents, Wed Nov 11 2026. No macro, syntax, notation, axiom, sorry.
-/
import Derived.Test.YtgfoeongjhkdmaaChecked
import GoSem.Claim
import GoSem.ClaimJoined
import GoSem.ClaimMapViews
import Derived.JoinedTies
import Derived.KernelRfl
namespace Go.Proofs.Ytgfoeongjhkdmaa
/- THE CELL 'sum', in the pinned program and in every row, IS THE sha256 OF THE DUMP (.gsa) THAT YtgfoeongjhkdmaaProg.lean LOADS. Nothing in Lean hashes anything: it is a label: what it is worth is what the hold of that sum in a sandbox is worth. -/
noncomputable def Try.pinned : Pinned := { name := "ytgfoeongjhkdmaa", sum := "0c999ed09793db0c543f4df5845896ce196099dfee5cc97d4c213012f1d07f8f", checked := Try.checked }
namespace Rows
def none {H : Type} : Left H := { results := [], args := [] }

/-- 'balefirelaw10.PolysBack': WHATEVER THE INPUT: true; the input reads as it did. -/
def polysBackSpec : ChangeSpec := { name := "polysBack", fn := fun _ => fun
  | [d1, d2, d3] => { results := [.lit (.bool true)], args := [d1, d2, d3] }
  | _ => none }
def polysBackRow : OpenClaim := { program := "ytgfoeongjhkdmaa", sum := "0c999ed09793db0c543f4df5845896ce196099dfee5cc97d4c213012f1d07f8f", func := "balefire/balefirelaw10.PolysBack", spec := "polysBack", inPlace := ["math/bits.Add64", "math/bits.Sub64"], unfollowed := true, recurses := true, named := ["math/bits.divideError", "math/bits.overflowError"], apart := false }
def PolysBackSaid : Prop := polysBackRow.holds Try.pinned (OpenSpec.ofChange polysBackSpec)

/-- ITS FALSE NEIGHBOUR: 'it returns false'. Refute it at one input. -/
def polysBackWrong : ChangeSpec := { name := "polysBack", fn := fun _ => fun
  | [d1, d2, d3] => { results := [.lit (.bool false)], args := [d1, d2, d3] }
  | _ => none }
def PolysBackWrongFalsely : Prop := polysBackRow.holds Try.pinned (OpenSpec.ofChange polysBackWrong)

/-- 'balefirelaw10.PolysSums': WHATEVER THE INPUT: true; the input reads as it did. -/
def polysSumsSpec : ChangeSpec := { name := "polysSums", fn := fun _ => fun
  | [d1, d2, d3] => { results := [.lit (.bool true)], args := [d1, d2, d3] }
  | _ => none }
def polysSumsRow : OpenClaim := { program := "ytgfoeongjhkdmaa", sum := "0c999ed09793db0c543f4df5845896ce196099dfee5cc97d4c213012f1d07f8f", func := "balefire/balefirelaw10.PolysSums", spec := "polysSums", inPlace := ["math/bits.Add64", "math/bits.Sub64"], unfollowed := true, recurses := true, named := ["math/bits.divideError", "math/bits.overflowError"], apart := false }
def PolysSumsSaid : Prop := polysSumsRow.holds Try.pinned (OpenSpec.ofChange polysSumsSpec)

/-- ITS FALSE NEIGHBOUR: 'it returns false'. Refute it at one input. -/
def polysSumsWrong : ChangeSpec := { name := "polysSums", fn := fun _ => fun
  | [d1, d2, d3] => { results := [.lit (.bool false)], args := [d1, d2, d3] }
  | _ => none }
def PolysSumsWrongFalsely : Prop := polysSumsRow.holds Try.pinned (OpenSpec.ofChange polysSumsWrong)

/-- 'balefirelaw10.PolysMoved': WHATEVER THE INPUT: true; the input reads as it did. -/
def polysMovedSpec : ChangeSpec := { name := "polysMoved", fn := fun _ => fun
  | [d1, d2, d3] => { results := [.lit (.bool true)], args := [d1, d2, d3] }
  | _ => none }
def polysMovedRow : OpenClaim := { program := "ytgfoeongjhkdmaa", sum := "0c999ed09793db0c543f4df5845896ce196099dfee5cc97d4c213012f1d07f8f", func := "balefire/balefirelaw10.PolysMoved", spec := "polysMoved", inPlace := ["math/bits.Add64", "math/bits.Sub64"], unfollowed := true, recurses := true, named := ["math/bits.divideError", "math/bits.overflowError"], apart := false }
def PolysMovedSaid : Prop := polysMovedRow.holds Try.pinned (OpenSpec.ofChange polysMovedSpec)

/-- ITS FALSE NEIGHBOUR: 'it returns false'. Refute it at one input. -/
def polysMovedWrong : ChangeSpec := { name := "polysMoved", fn := fun _ => fun
  | [d1, d2, d3] => { results := [.lit (.bool false)], args := [d1, d2, d3] }
  | _ => none }
def PolysMovedWrongFalsely : Prop := polysMovedRow.holds Try.pinned (OpenSpec.ofChange polysMovedWrong)

/-- 'balefirelaw12.DualsPass': WHATEVER THE INPUT: true; the input reads as it did. -/
def dualsPassSpec : ChangeSpec := { name := "dualsPass", fn := fun _ => fun
  | [d1, d2, d3] => { results := [.lit (.bool true)], args := [d1, d2, d3] }
  | _ => none }
def dualsPassRow : OpenClaim := { program := "ytgfoeongjhkdmaa", sum := "0c999ed09793db0c543f4df5845896ce196099dfee5cc97d4c213012f1d07f8f", func := "balefire/balefirelaw12.DualsPass", spec := "dualsPass", inPlace := ["math/bits.Add64", "math/bits.Sub64"], unfollowed := true, recurses := true, named := ["math/bits.divideError", "math/bits.overflowError"], apart := false }
def DualsPassSaid : Prop := dualsPassRow.holds Try.pinned (OpenSpec.ofChange dualsPassSpec)

/-- ITS FALSE NEIGHBOUR: 'it returns false'. Refute it at one input. -/
def dualsPassWrong : ChangeSpec := { name := "dualsPass", fn := fun _ => fun
  | [d1, d2, d3] => { results := [.lit (.bool false)], args := [d1, d2, d3] }
  | _ => none }
def DualsPassWrongFalsely : Prop := dualsPassRow.holds Try.pinned (OpenSpec.ofChange dualsPassWrong)

/-- 'balefirelaw12.DualsAll': WHATEVER THE INPUT: true; the input reads as it did. -/
def dualsAllSpec : ChangeSpec := { name := "dualsAll", fn := fun _ => fun
  | [d1, d2, d3] => { results := [.lit (.bool true)], args := [d1, d2, d3] }
  | _ => none }
def dualsAllRow : OpenClaim := { program := "ytgfoeongjhkdmaa", sum := "0c999ed09793db0c543f4df5845896ce196099dfee5cc97d4c213012f1d07f8f", func := "balefire/balefirelaw12.DualsAll", spec := "dualsAll", inPlace := ["math/bits.Add64", "math/bits.Sub64"], unfollowed := true, recurses := true, named := ["math/bits.divideError", "math/bits.overflowError"], apart := false }
def DualsAllSaid : Prop := dualsAllRow.holds Try.pinned (OpenSpec.ofChange dualsAllSpec)

/-- ITS FALSE NEIGHBOUR: 'it returns false'. Refute it at one input. -/
def dualsAllWrong : ChangeSpec := { name := "dualsAll", fn := fun _ => fun
  | [d1, d2, d3] => { results := [.lit (.bool false)], args := [d1, d2, d3] }
  | _ => none }
def DualsAllWrongFalsely : Prop := dualsAllRow.holds Try.pinned (OpenSpec.ofChange dualsAllWrong)

/-- 'balefirelaw12.DualsLeast': WHATEVER THE INPUT: true; the input reads as it did. -/
def dualsLeastSpec : ChangeSpec := { name := "dualsLeast", fn := fun _ => fun
  | [d1, d2] => { results := [.lit (.bool true)], args := [d1, d2] }
  | _ => none }
def dualsLeastRow : OpenClaim := { program := "ytgfoeongjhkdmaa", sum := "0c999ed09793db0c543f4df5845896ce196099dfee5cc97d4c213012f1d07f8f", func := "balefire/balefirelaw12.DualsLeast", spec := "dualsLeast", inPlace := ["math/bits.Add64", "math/bits.Sub64"], unfollowed := true, recurses := true, named := ["math/bits.divideError", "math/bits.overflowError"], apart := false }
def DualsLeastSaid : Prop := dualsLeastRow.holds Try.pinned (OpenSpec.ofChange dualsLeastSpec)

/-- ITS FALSE NEIGHBOUR: 'it returns false'. Refute it at one input. -/
def dualsLeastWrong : ChangeSpec := { name := "dualsLeast", fn := fun _ => fun
  | [d1, d2] => { results := [.lit (.bool false)], args := [d1, d2] }
  | _ => none }
def DualsLeastWrongFalsely : Prop := dualsLeastRow.holds Try.pinned (OpenSpec.ofChange dualsLeastWrong)

/- THE SECOND FORM. 'bulk': how many values and letters a reading holds, each counted each time it is reached (what is shared counts as often as it is met; a slice's spare places count too). A statement '..UptoSaid' is the law's where the arguments, and the package variables that the reading takes, are together of bulk at most 1048576: NARROWER than '..Said'. Prove '..Said' where nothing that the law and all that it calls make is longer than what came in: it says more and counts as full. Else prove '..UptoSaid'. A law counts once. -/
mutual
def uptoBulk {H : Type} : DataW H → Nat
  | .lit (.string bytes) => bytes.length + 1
  | .lit _ => 1
  | .nil => 1
  | .ptr d => uptoBulk d + 1
  | .slice elems spare => uptoBulkAll elems + uptoBulkAll spare + 1
  | .agg parts => uptoBulkAll parts + 1
  | .iface _ d => uptoBulk d + 1
  | .map entries => uptoBulkEntries entries + 1
  | .held _ => 1
def uptoBulkAll {H : Type} : List (DataW H) → Nat
  | [] => 0
  | d :: r => uptoBulk d + uptoBulkAll r
def uptoBulkEntries {H : Type} : List (Lit × DataW H) → Nat
  | [] => 0
  | x :: r => uptoBulkEntry x + uptoBulkEntries r
def uptoBulkEntry {H : Type} : Lit × DataW H → Nat
  | (.string bytes, d) => bytes.length + uptoBulk d + 1
  | (_, d) => uptoBulk d + 1
 end
def uptoSmall : (H : Type) → List (DataW H) → Bool := fun _ ds => decide (uptoBulkAll ds ≤ 1048576)
def OpenSpec.upto (s : _root_.Go.ChangeSpec) : _root_.Go.OpenSpec := { _root_.Go.OpenSpec.ofChange s with cond := some uptoSmall }

/-- 'balefirelaw10.PolysBack', WHERE WHAT IT READS IS OF BULK AT MOST 1048576: true; the input reads as it did. -/
def polysBackUptoRow : OpenClaim := { program := "ytgfoeongjhkdmaa", sum := "0c999ed09793db0c543f4df5845896ce196099dfee5cc97d4c213012f1d07f8f", func := "balefire/balefirelaw10.PolysBack", spec := "polysBack", inPlace := ["math/bits.Add64", "math/bits.Sub64"], unfollowed := true, recurses := true, named := ["math/bits.divideError", "math/bits.overflowError"], apart := false, narrowed := true }
def PolysBackUptoSaid : Prop := polysBackUptoRow.holds Try.pinned (OpenSpec.upto polysBackSpec)

/-- 'balefirelaw10.PolysSums', WHERE WHAT IT READS IS OF BULK AT MOST 1048576: true; the input reads as it did. -/
def polysSumsUptoRow : OpenClaim := { program := "ytgfoeongjhkdmaa", sum := "0c999ed09793db0c543f4df5845896ce196099dfee5cc97d4c213012f1d07f8f", func := "balefire/balefirelaw10.PolysSums", spec := "polysSums", inPlace := ["math/bits.Add64", "math/bits.Sub64"], unfollowed := true, recurses := true, named := ["math/bits.divideError", "math/bits.overflowError"], apart := false, narrowed := true }
def PolysSumsUptoSaid : Prop := polysSumsUptoRow.holds Try.pinned (OpenSpec.upto polysSumsSpec)

/-- 'balefirelaw10.PolysMoved', WHERE WHAT IT READS IS OF BULK AT MOST 1048576: true; the input reads as it did. -/
def polysMovedUptoRow : OpenClaim := { program := "ytgfoeongjhkdmaa", sum := "0c999ed09793db0c543f4df5845896ce196099dfee5cc97d4c213012f1d07f8f", func := "balefire/balefirelaw10.PolysMoved", spec := "polysMoved", inPlace := ["math/bits.Add64", "math/bits.Sub64"], unfollowed := true, recurses := true, named := ["math/bits.divideError", "math/bits.overflowError"], apart := false, narrowed := true }
def PolysMovedUptoSaid : Prop := polysMovedUptoRow.holds Try.pinned (OpenSpec.upto polysMovedSpec)

/-- 'balefirelaw12.DualsPass', WHERE WHAT IT READS IS OF BULK AT MOST 1048576: true; the input reads as it did. -/
def dualsPassUptoRow : OpenClaim := { program := "ytgfoeongjhkdmaa", sum := "0c999ed09793db0c543f4df5845896ce196099dfee5cc97d4c213012f1d07f8f", func := "balefire/balefirelaw12.DualsPass", spec := "dualsPass", inPlace := ["math/bits.Add64", "math/bits.Sub64"], unfollowed := true, recurses := true, named := ["math/bits.divideError", "math/bits.overflowError"], apart := false, narrowed := true }
def DualsPassUptoSaid : Prop := dualsPassUptoRow.holds Try.pinned (OpenSpec.upto dualsPassSpec)

/-- 'balefirelaw12.DualsAll', WHERE WHAT IT READS IS OF BULK AT MOST 1048576: true; the input reads as it did. -/
def dualsAllUptoRow : OpenClaim := { program := "ytgfoeongjhkdmaa", sum := "0c999ed09793db0c543f4df5845896ce196099dfee5cc97d4c213012f1d07f8f", func := "balefire/balefirelaw12.DualsAll", spec := "dualsAll", inPlace := ["math/bits.Add64", "math/bits.Sub64"], unfollowed := true, recurses := true, named := ["math/bits.divideError", "math/bits.overflowError"], apart := false, narrowed := true }
def DualsAllUptoSaid : Prop := dualsAllUptoRow.holds Try.pinned (OpenSpec.upto dualsAllSpec)

/-- 'balefirelaw12.DualsLeast', WHERE WHAT IT READS IS OF BULK AT MOST 1048576: true; the input reads as it did. -/
def dualsLeastUptoRow : OpenClaim := { program := "ytgfoeongjhkdmaa", sum := "0c999ed09793db0c543f4df5845896ce196099dfee5cc97d4c213012f1d07f8f", func := "balefire/balefirelaw12.DualsLeast", spec := "dualsLeast", inPlace := ["math/bits.Add64", "math/bits.Sub64"], unfollowed := true, recurses := true, named := ["math/bits.divideError", "math/bits.overflowError"], apart := false, narrowed := true }
def DualsLeastUptoSaid : Prop := dualsLeastUptoRow.holds Try.pinned (OpenSpec.upto dualsLeastSpec)

end Rows
end Go.Proofs.Ytgfoeongjhkdmaa
