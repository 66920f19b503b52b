/-
  NARROWER THAN 'FOR EVERY INPUT', by the rows' own cells (each row's printed sentence says how): PrimesCheck: loops · PrimesProduct: loops · PrimesParts: loops · PrimesTurned: loops · PrimesLeft: loops · GroupsCheck: loops.
  DERIVED. THE GIVEN ROWS OF THIS SEAT. 9 by the template 'for every input the law returns true; each argument reads behind the call as it read before'; 0 by the template 'total and deterministic' (their statements: YthbcgcncoggagaaTotals.lean).
  GIVEN WITH THE SEED: the statements are not yours to turn. If you find one false, say at which input.
  Laid BY PROGRAM, IN A SANDBOX (cutbox-rows.mjs): the forced cells as the released guide's own fill.sh prints them over the translation d9c7a167725620f8… (all of the seat's roots in one cut). By AI agents, Wed Nov 11 2026. No macro, syntax, notation, axiom, sorry.
-/
import Derived.Test.YthbcgcncoggagaaChecked
import GoSem.Claim
import GoSem.ClaimJoined
import GoSem.ClaimMapViews
import Derived.JoinedTies
import Derived.KernelRfl
namespace Go.Proofs.Ythbcgcncoggagaa
/- THE CELL 'sum', in the pinned program and in every row, IS THE sha256 OF THE DUMP (.gsa) THAT YthbcgcncoggagaaProg.lean LOADS. Nothing in Lean hashes anything: it is a label: what it is worth is what the hold of that sum in a sandbox is worth. -/
noncomputable def Try.pinned : Pinned := { name := "ythbcgcncoggagaa", sum := "d9c7a167725620f8d2856bc49b32cf531a05dec0e00a1c88580df31be84fa5a1", checked := Try.checked }
namespace Rows
def none {H : Type} : Left H := { results := [], args := [] }

/-- 'balefirelaw14.ProofsBack': WHATEVER THE INPUT: true; the input reads as it did. -/
def proofsBackSpec : ChangeSpec := { name := "proofsBack", fn := fun _ => fun
  | [d1, d2, d3] => { results := [.lit (.bool true)], args := [d1, d2, d3] }
  | _ => none }
def proofsBackRow : OpenClaim := { program := "ythbcgcncoggagaa", sum := "d9c7a167725620f8d2856bc49b32cf531a05dec0e00a1c88580df31be84fa5a1", func := "balefire/balefirelaw14.ProofsBack", spec := "proofsBack", inPlace := ["math/bits.Sub64", "math/bits.Add64"], unfollowed := true, recurses := true, named := ["math/bits.divideError", "math/bits.overflowError"], apart := false }
def ProofsBackSaid : Prop := proofsBackRow.holds Try.pinned (OpenSpec.ofChange proofsBackSpec)

/-- ITS FALSE NEIGHBOUR: 'it returns false'. Refute it at one input. -/
def proofsBackWrong : ChangeSpec := { name := "proofsBack", fn := fun _ => fun
  | [d1, d2, d3] => { results := [.lit (.bool false)], args := [d1, d2, d3] }
  | _ => none }
def ProofsBackWrongFalsely : Prop := proofsBackRow.holds Try.pinned (OpenSpec.ofChange proofsBackWrong)

/-- 'balefirelaw14.ProofsBounds': WHATEVER THE INPUT: true; the input reads as it did. -/
def proofsBoundsSpec : ChangeSpec := { name := "proofsBounds", fn := fun _ => fun
  | [d1, d2] => { results := [.lit (.bool true)], args := [d1, d2] }
  | _ => none }
def proofsBoundsRow : OpenClaim := { program := "ythbcgcncoggagaa", sum := "d9c7a167725620f8d2856bc49b32cf531a05dec0e00a1c88580df31be84fa5a1", func := "balefire/balefirelaw14.ProofsBounds", spec := "proofsBounds", inPlace := ["math/bits.Sub64", "math/bits.Add64"], unfollowed := true, recurses := true, named := ["math/bits.divideError", "math/bits.overflowError"], apart := false }
def ProofsBoundsSaid : Prop := proofsBoundsRow.holds Try.pinned (OpenSpec.ofChange proofsBoundsSpec)

/-- ITS FALSE NEIGHBOUR: 'it returns false'. Refute it at one input. -/
def proofsBoundsWrong : ChangeSpec := { name := "proofsBounds", fn := fun _ => fun
  | [d1, d2] => { results := [.lit (.bool false)], args := [d1, d2] }
  | _ => none }
def ProofsBoundsWrongFalsely : Prop := proofsBoundsRow.holds Try.pinned (OpenSpec.ofChange proofsBoundsWrong)

/-- 'balefirelaw06.HashesOf': WHATEVER THE INPUT: true; the input reads as it did. -/
def hashesOfSpec : ChangeSpec := { name := "hashesOf", fn := fun _ => fun
  | [d1, d2, d3] => { results := [.lit (.bool true)], args := [d1, d2, d3] }
  | _ => none }
def hashesOfRow : OpenClaim := { program := "ythbcgcncoggagaa", sum := "d9c7a167725620f8d2856bc49b32cf531a05dec0e00a1c88580df31be84fa5a1", func := "balefire/balefirelaw06.HashesOf", spec := "hashesOf", inPlace := ["math/bits.Add64", "math/bits.Sub64"], unfollowed := true, recurses := true, named := ["math/bits.divideError", "math/bits.overflowError"], apart := false }
def HashesOfSaid : Prop := hashesOfRow.holds Try.pinned (OpenSpec.ofChange hashesOfSpec)

/-- ITS FALSE NEIGHBOUR: 'it returns false'. Refute it at one input. -/
def hashesOfWrong : ChangeSpec := { name := "hashesOf", fn := fun _ => fun
  | [d1, d2, d3] => { results := [.lit (.bool false)], args := [d1, d2, d3] }
  | _ => none }
def HashesOfWrongFalsely : Prop := hashesOfRow.holds Try.pinned (OpenSpec.ofChange hashesOfWrong)

/-- 'balefirelaw07.PrimesCheck': WHATEVER THE INPUT: true; the input reads as it did. -/
def primesCheckSpec : ChangeSpec := { name := "primesCheck", fn := fun _ => fun
  | [d] => { results := [.lit (.bool true)], args := [d] }
  | _ => none }
def primesCheckRow : OpenClaim := { program := "ythbcgcncoggagaa", sum := "d9c7a167725620f8d2856bc49b32cf531a05dec0e00a1c88580df31be84fa5a1", func := "balefire/balefirelaw07.PrimesCheck", spec := "primesCheck", inPlace := ["math/bits.Sub64", "math/bits.Add64"], unfollowed := true, recurses := true, named := ["math/bits.divideError", "math/bits.overflowError"], loops := true, apart := false }
def PrimesCheckSaid : Prop := primesCheckRow.holds Try.pinned (OpenSpec.ofChange primesCheckSpec)

/-- ITS FALSE NEIGHBOUR: 'it returns false'. Refute it at one input. -/
def primesCheckWrong : ChangeSpec := { name := "primesCheck", fn := fun _ => fun
  | [d] => { results := [.lit (.bool false)], args := [d] }
  | _ => none }
def PrimesCheckWrongFalsely : Prop := primesCheckRow.holds Try.pinned (OpenSpec.ofChange primesCheckWrong)

/-- 'balefirelaw07.PrimesProduct': WHATEVER THE INPUT: true; the input reads as it did. -/
def primesProductSpec : ChangeSpec := { name := "primesProduct", fn := fun _ => fun
  | [d1, d2, d3] => { results := [.lit (.bool true)], args := [d1, d2, d3] }
  | _ => none }
def primesProductRow : OpenClaim := { program := "ythbcgcncoggagaa", sum := "d9c7a167725620f8d2856bc49b32cf531a05dec0e00a1c88580df31be84fa5a1", func := "balefire/balefirelaw07.PrimesProduct", spec := "primesProduct", inPlace := ["math/bits.Sub64", "math/bits.Add64"], unfollowed := true, recurses := true, named := ["math/bits.divideError", "math/bits.overflowError"], loops := true, apart := false }
def PrimesProductSaid : Prop := primesProductRow.holds Try.pinned (OpenSpec.ofChange primesProductSpec)

/-- ITS FALSE NEIGHBOUR: 'it returns false'. Refute it at one input. -/
def primesProductWrong : ChangeSpec := { name := "primesProduct", fn := fun _ => fun
  | [d1, d2, d3] => { results := [.lit (.bool false)], args := [d1, d2, d3] }
  | _ => none }
def PrimesProductWrongFalsely : Prop := primesProductRow.holds Try.pinned (OpenSpec.ofChange primesProductWrong)

/-- 'balefirelaw07.PrimesParts': WHATEVER THE INPUT: true; the input reads as it did. -/
def primesPartsSpec : ChangeSpec := { name := "primesParts", fn := fun _ => fun
  | [d] => { results := [.lit (.bool true)], args := [d] }
  | _ => none }
def primesPartsRow : OpenClaim := { program := "ythbcgcncoggagaa", sum := "d9c7a167725620f8d2856bc49b32cf531a05dec0e00a1c88580df31be84fa5a1", func := "balefire/balefirelaw07.PrimesParts", spec := "primesParts", inPlace := ["math/bits.Sub64", "math/bits.Add64"], unfollowed := true, recurses := true, named := ["math/bits.divideError", "math/bits.overflowError"], loops := true, apart := false }
def PrimesPartsSaid : Prop := primesPartsRow.holds Try.pinned (OpenSpec.ofChange primesPartsSpec)

/-- ITS FALSE NEIGHBOUR: 'it returns false'. Refute it at one input. -/
def primesPartsWrong : ChangeSpec := { name := "primesParts", fn := fun _ => fun
  | [d] => { results := [.lit (.bool false)], args := [d] }
  | _ => none }
def PrimesPartsWrongFalsely : Prop := primesPartsRow.holds Try.pinned (OpenSpec.ofChange primesPartsWrong)

/-- 'balefirelaw07.PrimesTurned': WHATEVER THE INPUT: true; the input reads as it did. -/
def primesTurnedSpec : ChangeSpec := { name := "primesTurned", fn := fun _ => fun
  | [d1, d2] => { results := [.lit (.bool true)], args := [d1, d2] }
  | _ => none }
def primesTurnedRow : OpenClaim := { program := "ythbcgcncoggagaa", sum := "d9c7a167725620f8d2856bc49b32cf531a05dec0e00a1c88580df31be84fa5a1", func := "balefire/balefirelaw07.PrimesTurned", spec := "primesTurned", inPlace := ["math/bits.Sub64", "math/bits.Add64"], unfollowed := true, recurses := true, named := ["math/bits.divideError", "math/bits.overflowError"], loops := true, apart := false }
def PrimesTurnedSaid : Prop := primesTurnedRow.holds Try.pinned (OpenSpec.ofChange primesTurnedSpec)

/-- ITS FALSE NEIGHBOUR: 'it returns false'. Refute it at one input. -/
def primesTurnedWrong : ChangeSpec := { name := "primesTurned", fn := fun _ => fun
  | [d1, d2] => { results := [.lit (.bool false)], args := [d1, d2] }
  | _ => none }
def PrimesTurnedWrongFalsely : Prop := primesTurnedRow.holds Try.pinned (OpenSpec.ofChange primesTurnedWrong)

/-- 'balefirelaw07.PrimesLeft': WHATEVER THE INPUT: true; the input reads as it did. -/
def primesLeftSpec : ChangeSpec := { name := "primesLeft", fn := fun _ => fun
  | [d1, d2] => { results := [.lit (.bool true)], args := [d1, d2] }
  | _ => none }
def primesLeftRow : OpenClaim := { program := "ythbcgcncoggagaa", sum := "d9c7a167725620f8d2856bc49b32cf531a05dec0e00a1c88580df31be84fa5a1", func := "balefire/balefirelaw07.PrimesLeft", spec := "primesLeft", inPlace := ["math/bits.Sub64", "math/bits.Add64"], unfollowed := true, recurses := true, named := ["math/bits.divideError", "math/bits.overflowError"], loops := true, apart := false }
def PrimesLeftSaid : Prop := primesLeftRow.holds Try.pinned (OpenSpec.ofChange primesLeftSpec)

/-- ITS FALSE NEIGHBOUR: 'it returns false'. Refute it at one input. -/
def primesLeftWrong : ChangeSpec := { name := "primesLeft", fn := fun _ => fun
  | [d1, d2] => { results := [.lit (.bool false)], args := [d1, d2] }
  | _ => none }
def PrimesLeftWrongFalsely : Prop := primesLeftRow.holds Try.pinned (OpenSpec.ofChange primesLeftWrong)

/-- 'balefirelaw08.GroupsCheck': WHATEVER THE INPUT: true; the input reads as it did. -/
def groupsCheckSpec : ChangeSpec := { name := "groupsCheck", fn := fun _ => fun
  | [d1, d2, d3] => { results := [.lit (.bool true)], args := [d1, d2, d3] }
  | _ => none }
def groupsCheckRow : OpenClaim := { program := "ythbcgcncoggagaa", sum := "d9c7a167725620f8d2856bc49b32cf531a05dec0e00a1c88580df31be84fa5a1", func := "balefire/balefirelaw08.GroupsCheck", spec := "groupsCheck", inPlace := ["math/bits.Sub64", "math/bits.Add64"], unfollowed := true, recurses := true, named := ["math/bits.divideError", "math/bits.overflowError"], loops := true, apart := false }
def GroupsCheckSaid : Prop := groupsCheckRow.holds Try.pinned (OpenSpec.ofChange groupsCheckSpec)

/-- ITS FALSE NEIGHBOUR: 'it returns false'. Refute it at one input. -/
def groupsCheckWrong : ChangeSpec := { name := "groupsCheck", fn := fun _ => fun
  | [d1, d2, d3] => { results := [.lit (.bool false)], args := [d1, d2, d3] }
  | _ => none }
def GroupsCheckWrongFalsely : Prop := groupsCheckRow.holds Try.pinned (OpenSpec.ofChange groupsCheckWrong)

/- THE SECOND FORM. 'bulk': how many values and letters a reading holds, each counted each time it is reached (what is shared counts as often as it is met; a slice's spare places count too). A statement '..UptoSaid' is the law's where the arguments, and the package variables that the reading takes, are together of bulk at most 1048576: NARROWER than '..Said'. Prove '..Said' where nothing that the law and all that it calls make is longer than what came in: it says more and counts as full. Else prove '..UptoSaid'. A law counts once. -/
mutual
def uptoBulk {H : Type} : DataW H → Nat
  | .lit (.string bytes) => bytes.length + 1
  | .lit _ => 1
  | .nil => 1
  | .ptr d => uptoBulk d + 1
  | .slice elems spare => uptoBulkAll elems + uptoBulkAll spare + 1
  | .agg parts => uptoBulkAll parts + 1
  | .iface _ d => uptoBulk d + 1
  | .map entries => uptoBulkEntries entries + 1
  | .held _ => 1
def uptoBulkAll {H : Type} : List (DataW H) → Nat
  | [] => 0
  | d :: r => uptoBulk d + uptoBulkAll r
def uptoBulkEntries {H : Type} : List (Lit × DataW H) → Nat
  | [] => 0
  | x :: r => uptoBulkEntry x + uptoBulkEntries r
def uptoBulkEntry {H : Type} : Lit × DataW H → Nat
  | (.string bytes, d) => bytes.length + uptoBulk d + 1
  | (_, d) => uptoBulk d + 1
 end
def uptoSmall : (H : Type) → List (DataW H) → Bool := fun _ ds => decide (uptoBulkAll ds ≤ 1048576)
def OpenSpec.upto (s : _root_.Go.ChangeSpec) : _root_.Go.OpenSpec := { _root_.Go.OpenSpec.ofChange s with cond := some uptoSmall }

/-- 'balefirelaw14.ProofsBack', WHERE WHAT IT READS IS OF BULK AT MOST 1048576: true; the input reads as it did. -/
def proofsBackUptoRow : OpenClaim := { program := "ythbcgcncoggagaa", sum := "d9c7a167725620f8d2856bc49b32cf531a05dec0e00a1c88580df31be84fa5a1", func := "balefire/balefirelaw14.ProofsBack", spec := "proofsBack", inPlace := ["math/bits.Sub64", "math/bits.Add64"], unfollowed := true, recurses := true, named := ["math/bits.divideError", "math/bits.overflowError"], apart := false, narrowed := true }
def ProofsBackUptoSaid : Prop := proofsBackUptoRow.holds Try.pinned (OpenSpec.upto proofsBackSpec)

/-- 'balefirelaw14.ProofsBounds', WHERE WHAT IT READS IS OF BULK AT MOST 1048576: true; the input reads as it did. -/
def proofsBoundsUptoRow : OpenClaim := { program := "ythbcgcncoggagaa", sum := "d9c7a167725620f8d2856bc49b32cf531a05dec0e00a1c88580df31be84fa5a1", func := "balefire/balefirelaw14.ProofsBounds", spec := "proofsBounds", inPlace := ["math/bits.Sub64", "math/bits.Add64"], unfollowed := true, recurses := true, named := ["math/bits.divideError", "math/bits.overflowError"], apart := false, narrowed := true }
def ProofsBoundsUptoSaid : Prop := proofsBoundsUptoRow.holds Try.pinned (OpenSpec.upto proofsBoundsSpec)

/-- 'balefirelaw06.HashesOf', WHERE WHAT IT READS IS OF BULK AT MOST 1048576: true; the input reads as it did. -/
def hashesOfUptoRow : OpenClaim := { program := "ythbcgcncoggagaa", sum := "d9c7a167725620f8d2856bc49b32cf531a05dec0e00a1c88580df31be84fa5a1", func := "balefire/balefirelaw06.HashesOf", spec := "hashesOf", inPlace := ["math/bits.Add64", "math/bits.Sub64"], unfollowed := true, recurses := true, named := ["math/bits.divideError", "math/bits.overflowError"], apart := false, narrowed := true }
def HashesOfUptoSaid : Prop := hashesOfUptoRow.holds Try.pinned (OpenSpec.upto hashesOfSpec)

/-- 'balefirelaw07.PrimesCheck', WHERE WHAT IT READS IS OF BULK AT MOST 1048576: true; the input reads as it did. -/
def primesCheckUptoRow : OpenClaim := { program := "ythbcgcncoggagaa", sum := "d9c7a167725620f8d2856bc49b32cf531a05dec0e00a1c88580df31be84fa5a1", func := "balefire/balefirelaw07.PrimesCheck", spec := "primesCheck", inPlace := ["math/bits.Sub64", "math/bits.Add64"], unfollowed := true, recurses := true, named := ["math/bits.divideError", "math/bits.overflowError"], loops := true, apart := false, narrowed := true }
def PrimesCheckUptoSaid : Prop := primesCheckUptoRow.holds Try.pinned (OpenSpec.upto primesCheckSpec)

/-- 'balefirelaw07.PrimesProduct', WHERE WHAT IT READS IS OF BULK AT MOST 1048576: true; the input reads as it did. -/
def primesProductUptoRow : OpenClaim := { program := "ythbcgcncoggagaa", sum := "d9c7a167725620f8d2856bc49b32cf531a05dec0e00a1c88580df31be84fa5a1", func := "balefire/balefirelaw07.PrimesProduct", spec := "primesProduct", inPlace := ["math/bits.Sub64", "math/bits.Add64"], unfollowed := true, recurses := true, named := ["math/bits.divideError", "math/bits.overflowError"], loops := true, apart := false, narrowed := true }
def PrimesProductUptoSaid : Prop := primesProductUptoRow.holds Try.pinned (OpenSpec.upto primesProductSpec)

/-- 'balefirelaw07.PrimesParts', WHERE WHAT IT READS IS OF BULK AT MOST 1048576: true; the input reads as it did. -/
def primesPartsUptoRow : OpenClaim := { program := "ythbcgcncoggagaa", sum := "d9c7a167725620f8d2856bc49b32cf531a05dec0e00a1c88580df31be84fa5a1", func := "balefire/balefirelaw07.PrimesParts", spec := "primesParts", inPlace := ["math/bits.Sub64", "math/bits.Add64"], unfollowed := true, recurses := true, named := ["math/bits.divideError", "math/bits.overflowError"], loops := true, apart := false, narrowed := true }
def PrimesPartsUptoSaid : Prop := primesPartsUptoRow.holds Try.pinned (OpenSpec.upto primesPartsSpec)

/-- 'balefirelaw07.PrimesTurned', WHERE WHAT IT READS IS OF BULK AT MOST 1048576: true; the input reads as it did. -/
def primesTurnedUptoRow : OpenClaim := { program := "ythbcgcncoggagaa", sum := "d9c7a167725620f8d2856bc49b32cf531a05dec0e00a1c88580df31be84fa5a1", func := "balefire/balefirelaw07.PrimesTurned", spec := "primesTurned", inPlace := ["math/bits.Sub64", "math/bits.Add64"], unfollowed := true, recurses := true, named := ["math/bits.divideError", "math/bits.overflowError"], loops := true, apart := false, narrowed := true }
def PrimesTurnedUptoSaid : Prop := primesTurnedUptoRow.holds Try.pinned (OpenSpec.upto primesTurnedSpec)

/-- 'balefirelaw07.PrimesLeft', WHERE WHAT IT READS IS OF BULK AT MOST 1048576: true; the input reads as it did. -/
def primesLeftUptoRow : OpenClaim := { program := "ythbcgcncoggagaa", sum := "d9c7a167725620f8d2856bc49b32cf531a05dec0e00a1c88580df31be84fa5a1", func := "balefire/balefirelaw07.PrimesLeft", spec := "primesLeft", inPlace := ["math/bits.Sub64", "math/bits.Add64"], unfollowed := true, recurses := true, named := ["math/bits.divideError", "math/bits.overflowError"], loops := true, apart := false, narrowed := true }
def PrimesLeftUptoSaid : Prop := primesLeftUptoRow.holds Try.pinned (OpenSpec.upto primesLeftSpec)

/-- 'balefirelaw08.GroupsCheck', WHERE WHAT IT READS IS OF BULK AT MOST 1048576: true; the input reads as it did. -/
def groupsCheckUptoRow : OpenClaim := { program := "ythbcgcncoggagaa", sum := "d9c7a167725620f8d2856bc49b32cf531a05dec0e00a1c88580df31be84fa5a1", func := "balefire/balefirelaw08.GroupsCheck", spec := "groupsCheck", inPlace := ["math/bits.Sub64", "math/bits.Add64"], unfollowed := true, recurses := true, named := ["math/bits.divideError", "math/bits.overflowError"], loops := true, apart := false, narrowed := true }
def GroupsCheckUptoSaid : Prop := groupsCheckUptoRow.holds Try.pinned (OpenSpec.upto groupsCheckSpec)

end Rows
end Go.Proofs.Ythbcgcncoggagaa
