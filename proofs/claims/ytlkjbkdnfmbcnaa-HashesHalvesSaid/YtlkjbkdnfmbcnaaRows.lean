/-
  No cell of these rows narrows 'for every input' (looked for: loops, veiled, ifaces, maps, wideKeys, modest, calm, conditions, laid).
  DERIVED. THE GIVEN ROWS OF THIS SEAT. 4 by the template 'for every input the law returns true; each argument reads behind the call as it read before'; 0 by the template 'total and deterministic' (their statements: YtlkjbkdnfmbcnaaTotals.lean).
  GIVEN WITH THE SEED: the statements are not yours to turn. If you find one false, say at which input.
  Laid BY PROGRAM, IN A SANDBOX (cutbox-rows.mjs): the forced cells as the released guide's own fill.sh prints them over the translation 113b8a4dbfaaba93… (all of the seat's roots in one cut). By AI agents, Wed Nov 11 2026. No macro, syntax, notation, axiom, sorry.
-/
import Derived.Test.YtlkjbkdnfmbcnaaChecked
import GoSem.Claim
import GoSem.ClaimJoined
import GoSem.ClaimMapViews
import Derived.JoinedTies
import Derived.KernelRfl
namespace Go.Proofs.Ytlkjbkdnfmbcnaa
/- THE CELL 'sum', in the pinned program and in every row, IS THE sha256 OF THE DUMP (.gsa) THAT YtlkjbkdnfmbcnaaProg.lean LOADS. Nothing in Lean hashes anything: it is a label: what it is worth is what the hold of that sum in a sandbox is worth. -/
noncomputable def Try.pinned : Pinned := { name := "ytlkjbkdnfmbcnaa", sum := "113b8a4dbfaaba939393ecf3a6cc86eb044dc0c2e617b30eadf46b07b2ffa610", checked := Try.checked }
namespace Rows
def none {H : Type} : Left H := { results := [], args := [] }

/-- 'balefirelaw06.HashesOf': WHATEVER THE INPUT: true; the input reads as it did. -/
def hashesOfSpec : ChangeSpec := { name := "hashesOf", fn := fun _ => fun
  | [d1, d2, d3] => { results := [.lit (.bool true)], args := [d1, d2, d3] }
  | _ => none }
def hashesOfRow : OpenClaim := { program := "ytlkjbkdnfmbcnaa", sum := "113b8a4dbfaaba939393ecf3a6cc86eb044dc0c2e617b30eadf46b07b2ffa610", func := "balefire/balefirelaw06.HashesOf", spec := "hashesOf", inPlace := ["math/bits.Add64", "math/bits.Sub64"], unfollowed := true, recurses := true, named := ["math/bits.divideError", "math/bits.overflowError"], apart := false }
def HashesOfSaid : Prop := hashesOfRow.holds Try.pinned (OpenSpec.ofChange hashesOfSpec)

/-- ITS FALSE NEIGHBOUR: 'it returns false'. Refute it at one input. -/
def hashesOfWrong : ChangeSpec := { name := "hashesOf", fn := fun _ => fun
  | [d1, d2, d3] => { results := [.lit (.bool false)], args := [d1, d2, d3] }
  | _ => none }
def HashesOfWrongFalsely : Prop := hashesOfRow.holds Try.pinned (OpenSpec.ofChange hashesOfWrong)

/-- 'balefirelaw06.HashesBytes': WHATEVER THE INPUT: true; the input reads as it did. -/
def hashesBytesSpec : ChangeSpec := { name := "hashesBytes", fn := fun _ => fun
  | [d1, d2, d3] => { results := [.lit (.bool true)], args := [d1, d2, d3] }
  | _ => none }
def hashesBytesRow : OpenClaim := { program := "ytlkjbkdnfmbcnaa", sum := "113b8a4dbfaaba939393ecf3a6cc86eb044dc0c2e617b30eadf46b07b2ffa610", func := "balefire/balefirelaw06.HashesBytes", spec := "hashesBytes", inPlace := ["math/bits.Add64", "math/bits.Sub64"], unfollowed := true, recurses := true, named := ["math/bits.divideError", "math/bits.overflowError"], apart := false }
def HashesBytesSaid : Prop := hashesBytesRow.holds Try.pinned (OpenSpec.ofChange hashesBytesSpec)

/-- ITS FALSE NEIGHBOUR: 'it returns false'. Refute it at one input. -/
def hashesBytesWrong : ChangeSpec := { name := "hashesBytes", fn := fun _ => fun
  | [d1, d2, d3] => { results := [.lit (.bool false)], args := [d1, d2, d3] }
  | _ => none }
def HashesBytesWrongFalsely : Prop := hashesBytesRow.holds Try.pinned (OpenSpec.ofChange hashesBytesWrong)

/-- 'balefirelaw06.HashesHalves': WHATEVER THE INPUT: true; the input reads as it did. -/
def hashesHalvesSpec : ChangeSpec := { name := "hashesHalves", fn := fun _ => fun
  | [d1, d2, d3] => { results := [.lit (.bool true)], args := [d1, d2, d3] }
  | _ => none }
def hashesHalvesRow : OpenClaim := { program := "ytlkjbkdnfmbcnaa", sum := "113b8a4dbfaaba939393ecf3a6cc86eb044dc0c2e617b30eadf46b07b2ffa610", func := "balefire/balefirelaw06.HashesHalves", spec := "hashesHalves", inPlace := ["math/bits.Add64", "math/bits.Sub64"], unfollowed := true, recurses := true, named := ["math/bits.divideError", "math/bits.overflowError"], apart := false }
def HashesHalvesSaid : Prop := hashesHalvesRow.holds Try.pinned (OpenSpec.ofChange hashesHalvesSpec)

/-- ITS FALSE NEIGHBOUR: 'it returns false'. Refute it at one input. -/
def hashesHalvesWrong : ChangeSpec := { name := "hashesHalves", fn := fun _ => fun
  | [d1, d2, d3] => { results := [.lit (.bool false)], args := [d1, d2, d3] }
  | _ => none }
def HashesHalvesWrongFalsely : Prop := hashesHalvesRow.holds Try.pinned (OpenSpec.ofChange hashesHalvesWrong)

/-- 'balefirelaw06.HashesNumber': WHATEVER THE INPUT: true; the input reads as it did. -/
def hashesNumberSpec : ChangeSpec := { name := "hashesNumber", fn := fun _ => fun
  | [d1, d2, d3] => { results := [.lit (.bool true)], args := [d1, d2, d3] }
  | _ => none }
def hashesNumberRow : OpenClaim := { program := "ytlkjbkdnfmbcnaa", sum := "113b8a4dbfaaba939393ecf3a6cc86eb044dc0c2e617b30eadf46b07b2ffa610", func := "balefire/balefirelaw06.HashesNumber", spec := "hashesNumber", inPlace := ["math/bits.Add64", "math/bits.Sub64"], unfollowed := true, recurses := true, named := ["math/bits.divideError", "math/bits.overflowError"], apart := false }
def HashesNumberSaid : Prop := hashesNumberRow.holds Try.pinned (OpenSpec.ofChange hashesNumberSpec)

/-- ITS FALSE NEIGHBOUR: 'it returns false'. Refute it at one input. -/
def hashesNumberWrong : ChangeSpec := { name := "hashesNumber", fn := fun _ => fun
  | [d1, d2, d3] => { results := [.lit (.bool false)], args := [d1, d2, d3] }
  | _ => none }
def HashesNumberWrongFalsely : Prop := hashesNumberRow.holds Try.pinned (OpenSpec.ofChange hashesNumberWrong)

/- THE SECOND FORM. 'bulk': how many values and letters a reading holds, each counted each time it is reached (what is shared counts as often as it is met; a slice's spare places count too). A statement '..UptoSaid' is the law's where the arguments, and the package variables that the reading takes, are together of bulk at most 1048576: NARROWER than '..Said'. Prove '..Said' where nothing that the law and all that it calls make is longer than what came in: it says more and counts as full. Else prove '..UptoSaid'. A law counts once. -/
mutual
def uptoBulk {H : Type} : DataW H → Nat
  | .lit (.string bytes) => bytes.length + 1
  | .lit _ => 1
  | .nil => 1
  | .ptr d => uptoBulk d + 1
  | .slice elems spare => uptoBulkAll elems + uptoBulkAll spare + 1
  | .agg parts => uptoBulkAll parts + 1
  | .iface _ d => uptoBulk d + 1
  | .map entries => uptoBulkEntries entries + 1
  | .held _ => 1
def uptoBulkAll {H : Type} : List (DataW H) → Nat
  | [] => 0
  | d :: r => uptoBulk d + uptoBulkAll r
def uptoBulkEntries {H : Type} : List (Lit × DataW H) → Nat
  | [] => 0
  | x :: r => uptoBulkEntry x + uptoBulkEntries r
def uptoBulkEntry {H : Type} : Lit × DataW H → Nat
  | (.string bytes, d) => bytes.length + uptoBulk d + 1
  | (_, d) => uptoBulk d + 1
 end
def uptoSmall : (H : Type) → List (DataW H) → Bool := fun _ ds => decide (uptoBulkAll ds ≤ 1048576)
def OpenSpec.upto (s : _root_.Go.ChangeSpec) : _root_.Go.OpenSpec := { _root_.Go.OpenSpec.ofChange s with cond := some uptoSmall }

/-- 'balefirelaw06.HashesOf', WHERE WHAT IT READS IS OF BULK AT MOST 1048576: true; the input reads as it did. -/
def hashesOfUptoRow : OpenClaim := { program := "ytlkjbkdnfmbcnaa", sum := "113b8a4dbfaaba939393ecf3a6cc86eb044dc0c2e617b30eadf46b07b2ffa610", func := "balefire/balefirelaw06.HashesOf", spec := "hashesOf", inPlace := ["math/bits.Add64", "math/bits.Sub64"], unfollowed := true, recurses := true, named := ["math/bits.divideError", "math/bits.overflowError"], apart := false, narrowed := true }
def HashesOfUptoSaid : Prop := hashesOfUptoRow.holds Try.pinned (OpenSpec.upto hashesOfSpec)

/-- 'balefirelaw06.HashesBytes', WHERE WHAT IT READS IS OF BULK AT MOST 1048576: true; the input reads as it did. -/
def hashesBytesUptoRow : OpenClaim := { program := "ytlkjbkdnfmbcnaa", sum := "113b8a4dbfaaba939393ecf3a6cc86eb044dc0c2e617b30eadf46b07b2ffa610", func := "balefire/balefirelaw06.HashesBytes", spec := "hashesBytes", inPlace := ["math/bits.Add64", "math/bits.Sub64"], unfollowed := true, recurses := true, named := ["math/bits.divideError", "math/bits.overflowError"], apart := false, narrowed := true }
def HashesBytesUptoSaid : Prop := hashesBytesUptoRow.holds Try.pinned (OpenSpec.upto hashesBytesSpec)

/-- 'balefirelaw06.HashesHalves', WHERE WHAT IT READS IS OF BULK AT MOST 1048576: true; the input reads as it did. -/
def hashesHalvesUptoRow : OpenClaim := { program := "ytlkjbkdnfmbcnaa", sum := "113b8a4dbfaaba939393ecf3a6cc86eb044dc0c2e617b30eadf46b07b2ffa610", func := "balefire/balefirelaw06.HashesHalves", spec := "hashesHalves", inPlace := ["math/bits.Add64", "math/bits.Sub64"], unfollowed := true, recurses := true, named := ["math/bits.divideError", "math/bits.overflowError"], apart := false, narrowed := true }
def HashesHalvesUptoSaid : Prop := hashesHalvesUptoRow.holds Try.pinned (OpenSpec.upto hashesHalvesSpec)

/-- 'balefirelaw06.HashesNumber', WHERE WHAT IT READS IS OF BULK AT MOST 1048576: true; the input reads as it did. -/
def hashesNumberUptoRow : OpenClaim := { program := "ytlkjbkdnfmbcnaa", sum := "113b8a4dbfaaba939393ecf3a6cc86eb044dc0c2e617b30eadf46b07b2ffa610", func := "balefire/balefirelaw06.HashesNumber", spec := "hashesNumber", inPlace := ["math/bits.Add64", "math/bits.Sub64"], unfollowed := true, recurses := true, named := ["math/bits.divideError", "math/bits.overflowError"], apart := false, narrowed := true }
def HashesNumberUptoSaid : Prop := hashesNumberUptoRow.holds Try.pinned (OpenSpec.upto hashesNumberSpec)

end Rows
end Go.Proofs.Ytlkjbkdnfmbcnaa
