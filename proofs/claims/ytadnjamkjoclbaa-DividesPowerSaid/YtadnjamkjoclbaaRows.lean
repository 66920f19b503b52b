/-
  No cell of these rows narrows 'for every input' (looked for: loops, veiled, ifaces, maps, wideKeys, modest, calm, conditions, laid).
  DERIVED. THE GIVEN ROWS OF THIS SEAT. 15 by the template 'for every input the law returns true; each argument reads behind the call as it read before'; 0 by the template 'total and deterministic' (their statements: YtadnjamkjoclbaaTotals.lean).
  GIVEN WITH THE SEED: the statements are not yours to turn. If you find one false, say at which input.
  Laid BY PROGRAM, IN A SANDBOX (cutbox-rows.mjs): the forced cells as the released guide's own fill.sh prints them over the translation 7ef63e61b3b1d375… (all of the seat's roots in one cut). By AI agents, Wed Nov 11 2026. No macro, syntax, notation, axiom, sorry.
-/
import Derived.Test.YtadnjamkjoclbaaChecked
import GoSem.Claim
import GoSem.ClaimJoined
import GoSem.ClaimMapViews
import Derived.JoinedTies
import Derived.KernelRfl
namespace Go.Proofs.Ytadnjamkjoclbaa
/- THE CELL 'sum', in the pinned program and in every row, IS THE sha256 OF THE DUMP (.gsa) THAT YtadnjamkjoclbaaProg.lean LOADS. Nothing in Lean hashes anything: it is a label: what it is worth is what the hold of that sum in a sandbox is worth. -/
noncomputable def Try.pinned : Pinned := { name := "ytadnjamkjoclbaa", sum := "7ef63e61b3b1d37587fc1ad48b613344625d78c7fe2e282aae6f6b97f6491d20", checked := Try.checked }
namespace Rows
def none {H : Type} : Left H := { results := [], args := [] }

/-- 'balefirelaw03.DividesOf': WHATEVER THE INPUT: true; the input reads as it did. -/
def dividesOfSpec : ChangeSpec := { name := "dividesOf", fn := fun _ => fun
  | [d] => { results := [.lit (.bool true)], args := [d] }
  | _ => none }
def dividesOfRow : OpenClaim := { program := "ytadnjamkjoclbaa", sum := "7ef63e61b3b1d37587fc1ad48b613344625d78c7fe2e282aae6f6b97f6491d20", func := "balefire/balefirelaw03.DividesOf", spec := "dividesOf", inPlace := ["math/bits.Add64", "math/bits.Sub64"], unfollowed := true, recurses := true, named := ["math/bits.divideError", "math/bits.overflowError"], apart := false }
def DividesOfSaid : Prop := dividesOfRow.holds Try.pinned (OpenSpec.ofChange dividesOfSpec)

/-- ITS FALSE NEIGHBOUR: 'it returns false'. Refute it at one input. -/
def dividesOfWrong : ChangeSpec := { name := "dividesOf", fn := fun _ => fun
  | [d] => { results := [.lit (.bool false)], args := [d] }
  | _ => none }
def DividesOfWrongFalsely : Prop := dividesOfRow.holds Try.pinned (OpenSpec.ofChange dividesOfWrong)

/-- 'balefirelaw03.DividesCommon': WHATEVER THE INPUT: true; the input reads as it did. -/
def dividesCommonSpec : ChangeSpec := { name := "dividesCommon", fn := fun _ => fun
  | [d1, d2] => { results := [.lit (.bool true)], args := [d1, d2] }
  | _ => none }
def dividesCommonRow : OpenClaim := { program := "ytadnjamkjoclbaa", sum := "7ef63e61b3b1d37587fc1ad48b613344625d78c7fe2e282aae6f6b97f6491d20", func := "balefire/balefirelaw03.DividesCommon", spec := "dividesCommon", inPlace := ["math/bits.Add64", "math/bits.Sub64"], unfollowed := true, recurses := true, named := ["math/bits.divideError", "math/bits.overflowError"], apart := false }
def DividesCommonSaid : Prop := dividesCommonRow.holds Try.pinned (OpenSpec.ofChange dividesCommonSpec)

/-- ITS FALSE NEIGHBOUR: 'it returns false'. Refute it at one input. -/
def dividesCommonWrong : ChangeSpec := { name := "dividesCommon", fn := fun _ => fun
  | [d1, d2] => { results := [.lit (.bool false)], args := [d1, d2] }
  | _ => none }
def DividesCommonWrongFalsely : Prop := dividesCommonRow.holds Try.pinned (OpenSpec.ofChange dividesCommonWrong)

/-- 'balefirelaw03.DividesAgain': WHATEVER THE INPUT: true; the input reads as it did. -/
def dividesAgainSpec : ChangeSpec := { name := "dividesAgain", fn := fun _ => fun
  | [d1, d2, d3] => { results := [.lit (.bool true)], args := [d1, d2, d3] }
  | _ => none }
def dividesAgainRow : OpenClaim := { program := "ytadnjamkjoclbaa", sum := "7ef63e61b3b1d37587fc1ad48b613344625d78c7fe2e282aae6f6b97f6491d20", func := "balefire/balefirelaw03.DividesAgain", spec := "dividesAgain", inPlace := ["math/bits.Add64", "math/bits.Sub64"], unfollowed := true, recurses := true, named := ["math/bits.divideError", "math/bits.overflowError"], apart := false }
def DividesAgainSaid : Prop := dividesAgainRow.holds Try.pinned (OpenSpec.ofChange dividesAgainSpec)

/-- ITS FALSE NEIGHBOUR: 'it returns false'. Refute it at one input. -/
def dividesAgainWrong : ChangeSpec := { name := "dividesAgain", fn := fun _ => fun
  | [d1, d2, d3] => { results := [.lit (.bool false)], args := [d1, d2, d3] }
  | _ => none }
def DividesAgainWrongFalsely : Prop := dividesAgainRow.holds Try.pinned (OpenSpec.ofChange dividesAgainWrong)

/-- 'balefirelaw03.DividesPower': WHATEVER THE INPUT: true; the input reads as it did. -/
def dividesPowerSpec : ChangeSpec := { name := "dividesPower", fn := fun _ => fun
  | [d1, d2] => { results := [.lit (.bool true)], args := [d1, d2] }
  | _ => none }
def dividesPowerRow : OpenClaim := { program := "ytadnjamkjoclbaa", sum := "7ef63e61b3b1d37587fc1ad48b613344625d78c7fe2e282aae6f6b97f6491d20", func := "balefire/balefirelaw03.DividesPower", spec := "dividesPower", inPlace := ["math/bits.Add64", "math/bits.Sub64"], unfollowed := true, recurses := true, named := ["math/bits.divideError", "math/bits.overflowError"], apart := false }
def DividesPowerSaid : Prop := dividesPowerRow.holds Try.pinned (OpenSpec.ofChange dividesPowerSpec)

/-- ITS FALSE NEIGHBOUR: 'it returns false'. Refute it at one input. -/
def dividesPowerWrong : ChangeSpec := { name := "dividesPower", fn := fun _ => fun
  | [d1, d2] => { results := [.lit (.bool false)], args := [d1, d2] }
  | _ => none }
def DividesPowerWrongFalsely : Prop := dividesPowerRow.holds Try.pinned (OpenSpec.ofChange dividesPowerWrong)

/-- 'balefirelaw03.DividesWide': WHATEVER THE INPUT: true; the input reads as it did. -/
def dividesWideSpec : ChangeSpec := { name := "dividesWide", fn := fun _ => fun
  | [d] => { results := [.lit (.bool true)], args := [d] }
  | _ => none }
def dividesWideRow : OpenClaim := { program := "ytadnjamkjoclbaa", sum := "7ef63e61b3b1d37587fc1ad48b613344625d78c7fe2e282aae6f6b97f6491d20", func := "balefire/balefirelaw03.DividesWide", spec := "dividesWide", inPlace := ["math/bits.Add64", "math/bits.Sub64"], unfollowed := true, recurses := true, named := ["math/bits.divideError", "math/bits.overflowError"], apart := false }
def DividesWideSaid : Prop := dividesWideRow.holds Try.pinned (OpenSpec.ofChange dividesWideSpec)

/-- ITS FALSE NEIGHBOUR: 'it returns false'. Refute it at one input. -/
def dividesWideWrong : ChangeSpec := { name := "dividesWide", fn := fun _ => fun
  | [d] => { results := [.lit (.bool false)], args := [d] }
  | _ => none }
def DividesWideWrongFalsely : Prop := dividesWideRow.holds Try.pinned (OpenSpec.ofChange dividesWideWrong)

/-- 'balefirelaw03.DividesTimes': WHATEVER THE INPUT: true; the input reads as it did. -/
def dividesTimesSpec : ChangeSpec := { name := "dividesTimes", fn := fun _ => fun
  | [d1, d2, d3] => { results := [.lit (.bool true)], args := [d1, d2, d3] }
  | _ => none }
def dividesTimesRow : OpenClaim := { program := "ytadnjamkjoclbaa", sum := "7ef63e61b3b1d37587fc1ad48b613344625d78c7fe2e282aae6f6b97f6491d20", func := "balefire/balefirelaw03.DividesTimes", spec := "dividesTimes", inPlace := ["math/bits.Add64", "math/bits.Sub64"], unfollowed := true, recurses := true, named := ["math/bits.divideError", "math/bits.overflowError"], apart := false }
def DividesTimesSaid : Prop := dividesTimesRow.holds Try.pinned (OpenSpec.ofChange dividesTimesSpec)

/-- ITS FALSE NEIGHBOUR: 'it returns false'. Refute it at one input. -/
def dividesTimesWrong : ChangeSpec := { name := "dividesTimes", fn := fun _ => fun
  | [d1, d2, d3] => { results := [.lit (.bool false)], args := [d1, d2, d3] }
  | _ => none }
def DividesTimesWrongFalsely : Prop := dividesTimesRow.holds Try.pinned (OpenSpec.ofChange dividesTimesWrong)

/-- 'balefirelaw03.DividesTwice': WHATEVER THE INPUT: true; the input reads as it did. -/
def dividesTwiceSpec : ChangeSpec := { name := "dividesTwice", fn := fun _ => fun
  | [d1, d2, d3] => { results := [.lit (.bool true)], args := [d1, d2, d3] }
  | _ => none }
def dividesTwiceRow : OpenClaim := { program := "ytadnjamkjoclbaa", sum := "7ef63e61b3b1d37587fc1ad48b613344625d78c7fe2e282aae6f6b97f6491d20", func := "balefire/balefirelaw03.DividesTwice", spec := "dividesTwice", inPlace := ["math/bits.Add64", "math/bits.Sub64"], unfollowed := true, recurses := true, named := ["math/bits.divideError", "math/bits.overflowError"], apart := false }
def DividesTwiceSaid : Prop := dividesTwiceRow.holds Try.pinned (OpenSpec.ofChange dividesTwiceSpec)

/-- ITS FALSE NEIGHBOUR: 'it returns false'. Refute it at one input. -/
def dividesTwiceWrong : ChangeSpec := { name := "dividesTwice", fn := fun _ => fun
  | [d1, d2, d3] => { results := [.lit (.bool false)], args := [d1, d2, d3] }
  | _ => none }
def DividesTwiceWrongFalsely : Prop := dividesTwiceRow.holds Try.pinned (OpenSpec.ofChange dividesTwiceWrong)

/-- 'balefirelaw03.DividesBack': WHATEVER THE INPUT: true; the input reads as it did. -/
def dividesBackSpec : ChangeSpec := { name := "dividesBack", fn := fun _ => fun
  | [d1, d2] => { results := [.lit (.bool true)], args := [d1, d2] }
  | _ => none }
def dividesBackRow : OpenClaim := { program := "ytadnjamkjoclbaa", sum := "7ef63e61b3b1d37587fc1ad48b613344625d78c7fe2e282aae6f6b97f6491d20", func := "balefire/balefirelaw03.DividesBack", spec := "dividesBack", inPlace := ["math/bits.Add64", "math/bits.Sub64"], unfollowed := true, recurses := true, named := ["math/bits.divideError", "math/bits.overflowError"], apart := false }
def DividesBackSaid : Prop := dividesBackRow.holds Try.pinned (OpenSpec.ofChange dividesBackSpec)

/-- ITS FALSE NEIGHBOUR: 'it returns false'. Refute it at one input. -/
def dividesBackWrong : ChangeSpec := { name := "dividesBack", fn := fun _ => fun
  | [d1, d2] => { results := [.lit (.bool false)], args := [d1, d2] }
  | _ => none }
def DividesBackWrongFalsely : Prop := dividesBackRow.holds Try.pinned (OpenSpec.ofChange dividesBackWrong)

/-- 'balefirelaw04.ModsOf': WHATEVER THE INPUT: true; the input reads as it did. -/
def modsOfSpec : ChangeSpec := { name := "modsOf", fn := fun _ => fun
  | [d1, d2, d3] => { results := [.lit (.bool true)], args := [d1, d2, d3] }
  | _ => none }
def modsOfRow : OpenClaim := { program := "ytadnjamkjoclbaa", sum := "7ef63e61b3b1d37587fc1ad48b613344625d78c7fe2e282aae6f6b97f6491d20", func := "balefire/balefirelaw04.ModsOf", spec := "modsOf", inPlace := ["math/bits.Add64", "math/bits.Sub64"], unfollowed := true, recurses := true, named := ["math/bits.divideError", "math/bits.overflowError"], apart := false }
def ModsOfSaid : Prop := modsOfRow.holds Try.pinned (OpenSpec.ofChange modsOfSpec)

/-- ITS FALSE NEIGHBOUR: 'it returns false'. Refute it at one input. -/
def modsOfWrong : ChangeSpec := { name := "modsOf", fn := fun _ => fun
  | [d1, d2, d3] => { results := [.lit (.bool false)], args := [d1, d2, d3] }
  | _ => none }
def ModsOfWrongFalsely : Prop := modsOfRow.holds Try.pinned (OpenSpec.ofChange modsOfWrong)

/-- 'balefirelaw04.ModsLaws': WHATEVER THE INPUT: true; the input reads as it did. -/
def modsLawsSpec : ChangeSpec := { name := "modsLaws", fn := fun _ => fun
  | [d1, d2] => { results := [.lit (.bool true)], args := [d1, d2] }
  | _ => none }
def modsLawsRow : OpenClaim := { program := "ytadnjamkjoclbaa", sum := "7ef63e61b3b1d37587fc1ad48b613344625d78c7fe2e282aae6f6b97f6491d20", func := "balefire/balefirelaw04.ModsLaws", spec := "modsLaws", inPlace := ["math/bits.Sub64", "math/bits.Add64"], unfollowed := true, recurses := true, named := ["math/bits.divideError", "math/bits.overflowError"], apart := false }
def ModsLawsSaid : Prop := modsLawsRow.holds Try.pinned (OpenSpec.ofChange modsLawsSpec)

/-- ITS FALSE NEIGHBOUR: 'it returns false'. Refute it at one input. -/
def modsLawsWrong : ChangeSpec := { name := "modsLaws", fn := fun _ => fun
  | [d1, d2] => { results := [.lit (.bool false)], args := [d1, d2] }
  | _ => none }
def ModsLawsWrongFalsely : Prop := modsLawsRow.holds Try.pinned (OpenSpec.ofChange modsLawsWrong)

/-- 'balefirelaw04.ModsWhole': WHATEVER THE INPUT: true; the input reads as it did. -/
def modsWholeSpec : ChangeSpec := { name := "modsWhole", fn := fun _ => fun
  | [d1, d2, d3] => { results := [.lit (.bool true)], args := [d1, d2, d3] }
  | _ => none }
def modsWholeRow : OpenClaim := { program := "ytadnjamkjoclbaa", sum := "7ef63e61b3b1d37587fc1ad48b613344625d78c7fe2e282aae6f6b97f6491d20", func := "balefire/balefirelaw04.ModsWhole", spec := "modsWhole", inPlace := ["math/bits.Sub64", "math/bits.Add64"], unfollowed := true, recurses := true, named := ["math/bits.divideError", "math/bits.overflowError"], apart := false }
def ModsWholeSaid : Prop := modsWholeRow.holds Try.pinned (OpenSpec.ofChange modsWholeSpec)

/-- ITS FALSE NEIGHBOUR: 'it returns false'. Refute it at one input. -/
def modsWholeWrong : ChangeSpec := { name := "modsWhole", fn := fun _ => fun
  | [d1, d2, d3] => { results := [.lit (.bool false)], args := [d1, d2, d3] }
  | _ => none }
def ModsWholeWrongFalsely : Prop := modsWholeRow.holds Try.pinned (OpenSpec.ofChange modsWholeWrong)

/-- 'balefirelaw04.ModsPowers': WHATEVER THE INPUT: true; the input reads as it did. -/
def modsPowersSpec : ChangeSpec := { name := "modsPowers", fn := fun _ => fun
  | [d1, d2, d3] => { results := [.lit (.bool true)], args := [d1, d2, d3] }
  | _ => none }
def modsPowersRow : OpenClaim := { program := "ytadnjamkjoclbaa", sum := "7ef63e61b3b1d37587fc1ad48b613344625d78c7fe2e282aae6f6b97f6491d20", func := "balefire/balefirelaw04.ModsPowers", spec := "modsPowers", inPlace := ["math/bits.Sub64", "math/bits.Add64"], unfollowed := true, recurses := true, named := ["math/bits.divideError", "math/bits.overflowError"], apart := false }
def ModsPowersSaid : Prop := modsPowersRow.holds Try.pinned (OpenSpec.ofChange modsPowersSpec)

/-- ITS FALSE NEIGHBOUR: 'it returns false'. Refute it at one input. -/
def modsPowersWrong : ChangeSpec := { name := "modsPowers", fn := fun _ => fun
  | [d1, d2, d3] => { results := [.lit (.bool false)], args := [d1, d2, d3] }
  | _ => none }
def ModsPowersWrongFalsely : Prop := modsPowersRow.holds Try.pinned (OpenSpec.ofChange modsPowersWrong)

/-- 'balefirelaw04.ModsInverse': WHATEVER THE INPUT: true; the input reads as it did. -/
def modsInverseSpec : ChangeSpec := { name := "modsInverse", fn := fun _ => fun
  | [d1, d2] => { results := [.lit (.bool true)], args := [d1, d2] }
  | _ => none }
def modsInverseRow : OpenClaim := { program := "ytadnjamkjoclbaa", sum := "7ef63e61b3b1d37587fc1ad48b613344625d78c7fe2e282aae6f6b97f6491d20", func := "balefire/balefirelaw04.ModsInverse", spec := "modsInverse", inPlace := ["math/bits.Sub64", "math/bits.Add64"], unfollowed := true, recurses := true, named := ["math/bits.divideError", "math/bits.overflowError"], apart := false }
def ModsInverseSaid : Prop := modsInverseRow.holds Try.pinned (OpenSpec.ofChange modsInverseSpec)

/-- ITS FALSE NEIGHBOUR: 'it returns false'. Refute it at one input. -/
def modsInverseWrong : ChangeSpec := { name := "modsInverse", fn := fun _ => fun
  | [d1, d2] => { results := [.lit (.bool false)], args := [d1, d2] }
  | _ => none }
def ModsInverseWrongFalsely : Prop := modsInverseRow.holds Try.pinned (OpenSpec.ofChange modsInverseWrong)

/-- 'balefirelaw04.ModsRefuse': WHATEVER THE INPUT: true; the input reads as it did. -/
def modsRefuseSpec : ChangeSpec := { name := "modsRefuse", fn := fun _ => fun
  | [d1, d2, d3] => { results := [.lit (.bool true)], args := [d1, d2, d3] }
  | _ => none }
def modsRefuseRow : OpenClaim := { program := "ytadnjamkjoclbaa", sum := "7ef63e61b3b1d37587fc1ad48b613344625d78c7fe2e282aae6f6b97f6491d20", func := "balefire/balefirelaw04.ModsRefuse", spec := "modsRefuse", inPlace := ["math/bits.Sub64", "math/bits.Add64"], unfollowed := true, recurses := true, named := ["math/bits.divideError", "math/bits.overflowError"], apart := false }
def ModsRefuseSaid : Prop := modsRefuseRow.holds Try.pinned (OpenSpec.ofChange modsRefuseSpec)

/-- ITS FALSE NEIGHBOUR: 'it returns false'. Refute it at one input. -/
def modsRefuseWrong : ChangeSpec := { name := "modsRefuse", fn := fun _ => fun
  | [d1, d2, d3] => { results := [.lit (.bool false)], args := [d1, d2, d3] }
  | _ => none }
def ModsRefuseWrongFalsely : Prop := modsRefuseRow.holds Try.pinned (OpenSpec.ofChange modsRefuseWrong)

/-- 'balefirelaw04.ModsTwo': WHATEVER THE INPUT: true; the input reads as it did. -/
def modsTwoSpec : ChangeSpec := { name := "modsTwo", fn := fun _ => fun
  | [d1, d2] => { results := [.lit (.bool true)], args := [d1, d2] }
  | _ => none }
def modsTwoRow : OpenClaim := { program := "ytadnjamkjoclbaa", sum := "7ef63e61b3b1d37587fc1ad48b613344625d78c7fe2e282aae6f6b97f6491d20", func := "balefire/balefirelaw04.ModsTwo", spec := "modsTwo", inPlace := ["math/bits.Add64", "math/bits.Sub64"], unfollowed := true, recurses := true, named := ["math/bits.divideError", "math/bits.overflowError"], apart := false }
def ModsTwoSaid : Prop := modsTwoRow.holds Try.pinned (OpenSpec.ofChange modsTwoSpec)

/-- ITS FALSE NEIGHBOUR: 'it returns false'. Refute it at one input. -/
def modsTwoWrong : ChangeSpec := { name := "modsTwo", fn := fun _ => fun
  | [d1, d2] => { results := [.lit (.bool false)], args := [d1, d2] }
  | _ => none }
def ModsTwoWrongFalsely : Prop := modsTwoRow.holds Try.pinned (OpenSpec.ofChange modsTwoWrong)

/- THE SECOND FORM. 'bulk': how many values and letters a reading holds, each counted each time it is reached (what is shared counts as often as it is met; a slice's spare places count too). A statement '..UptoSaid' is the law's where the arguments, and the package variables that the reading takes, are together of bulk at most 1048576: NARROWER than '..Said'. Prove '..Said' where nothing that the law and all that it calls make is longer than what came in: it says more and counts as full. Else prove '..UptoSaid'. A law counts once. -/
mutual
def uptoBulk {H : Type} : DataW H → Nat
  | .lit (.string bytes) => bytes.length + 1
  | .lit _ => 1
  | .nil => 1
  | .ptr d => uptoBulk d + 1
  | .slice elems spare => uptoBulkAll elems + uptoBulkAll spare + 1
  | .agg parts => uptoBulkAll parts + 1
  | .iface _ d => uptoBulk d + 1
  | .map entries => uptoBulkEntries entries + 1
  | .held _ => 1
def uptoBulkAll {H : Type} : List (DataW H) → Nat
  | [] => 0
  | d :: r => uptoBulk d + uptoBulkAll r
def uptoBulkEntries {H : Type} : List (Lit × DataW H) → Nat
  | [] => 0
  | x :: r => uptoBulkEntry x + uptoBulkEntries r
def uptoBulkEntry {H : Type} : Lit × DataW H → Nat
  | (.string bytes, d) => bytes.length + uptoBulk d + 1
  | (_, d) => uptoBulk d + 1
 end
def uptoSmall : (H : Type) → List (DataW H) → Bool := fun _ ds => decide (uptoBulkAll ds ≤ 1048576)
def OpenSpec.upto (s : _root_.Go.ChangeSpec) : _root_.Go.OpenSpec := { _root_.Go.OpenSpec.ofChange s with cond := some uptoSmall }

/-- 'balefirelaw03.DividesOf', WHERE WHAT IT READS IS OF BULK AT MOST 1048576: true; the input reads as it did. -/
def dividesOfUptoRow : OpenClaim := { program := "ytadnjamkjoclbaa", sum := "7ef63e61b3b1d37587fc1ad48b613344625d78c7fe2e282aae6f6b97f6491d20", func := "balefire/balefirelaw03.DividesOf", spec := "dividesOf", inPlace := ["math/bits.Add64", "math/bits.Sub64"], unfollowed := true, recurses := true, named := ["math/bits.divideError", "math/bits.overflowError"], apart := false, narrowed := true }
def DividesOfUptoSaid : Prop := dividesOfUptoRow.holds Try.pinned (OpenSpec.upto dividesOfSpec)

/-- 'balefirelaw03.DividesCommon', WHERE WHAT IT READS IS OF BULK AT MOST 1048576: true; the input reads as it did. -/
def dividesCommonUptoRow : OpenClaim := { program := "ytadnjamkjoclbaa", sum := "7ef63e61b3b1d37587fc1ad48b613344625d78c7fe2e282aae6f6b97f6491d20", func := "balefire/balefirelaw03.DividesCommon", spec := "dividesCommon", inPlace := ["math/bits.Add64", "math/bits.Sub64"], unfollowed := true, recurses := true, named := ["math/bits.divideError", "math/bits.overflowError"], apart := false, narrowed := true }
def DividesCommonUptoSaid : Prop := dividesCommonUptoRow.holds Try.pinned (OpenSpec.upto dividesCommonSpec)

/-- 'balefirelaw03.DividesAgain', WHERE WHAT IT READS IS OF BULK AT MOST 1048576: true; the input reads as it did. -/
def dividesAgainUptoRow : OpenClaim := { program := "ytadnjamkjoclbaa", sum := "7ef63e61b3b1d37587fc1ad48b613344625d78c7fe2e282aae6f6b97f6491d20", func := "balefire/balefirelaw03.DividesAgain", spec := "dividesAgain", inPlace := ["math/bits.Add64", "math/bits.Sub64"], unfollowed := true, recurses := true, named := ["math/bits.divideError", "math/bits.overflowError"], apart := false, narrowed := true }
def DividesAgainUptoSaid : Prop := dividesAgainUptoRow.holds Try.pinned (OpenSpec.upto dividesAgainSpec)

/-- 'balefirelaw03.DividesPower', WHERE WHAT IT READS IS OF BULK AT MOST 1048576: true; the input reads as it did. -/
def dividesPowerUptoRow : OpenClaim := { program := "ytadnjamkjoclbaa", sum := "7ef63e61b3b1d37587fc1ad48b613344625d78c7fe2e282aae6f6b97f6491d20", func := "balefire/balefirelaw03.DividesPower", spec := "dividesPower", inPlace := ["math/bits.Add64", "math/bits.Sub64"], unfollowed := true, recurses := true, named := ["math/bits.divideError", "math/bits.overflowError"], apart := false, narrowed := true }
def DividesPowerUptoSaid : Prop := dividesPowerUptoRow.holds Try.pinned (OpenSpec.upto dividesPowerSpec)

/-- 'balefirelaw03.DividesWide', WHERE WHAT IT READS IS OF BULK AT MOST 1048576: true; the input reads as it did. -/
def dividesWideUptoRow : OpenClaim := { program := "ytadnjamkjoclbaa", sum := "7ef63e61b3b1d37587fc1ad48b613344625d78c7fe2e282aae6f6b97f6491d20", func := "balefire/balefirelaw03.DividesWide", spec := "dividesWide", inPlace := ["math/bits.Add64", "math/bits.Sub64"], unfollowed := true, recurses := true, named := ["math/bits.divideError", "math/bits.overflowError"], apart := false, narrowed := true }
def DividesWideUptoSaid : Prop := dividesWideUptoRow.holds Try.pinned (OpenSpec.upto dividesWideSpec)

/-- 'balefirelaw03.DividesTimes', WHERE WHAT IT READS IS OF BULK AT MOST 1048576: true; the input reads as it did. -/
def dividesTimesUptoRow : OpenClaim := { program := "ytadnjamkjoclbaa", sum := "7ef63e61b3b1d37587fc1ad48b613344625d78c7fe2e282aae6f6b97f6491d20", func := "balefire/balefirelaw03.DividesTimes", spec := "dividesTimes", inPlace := ["math/bits.Add64", "math/bits.Sub64"], unfollowed := true, recurses := true, named := ["math/bits.divideError", "math/bits.overflowError"], apart := false, narrowed := true }
def DividesTimesUptoSaid : Prop := dividesTimesUptoRow.holds Try.pinned (OpenSpec.upto dividesTimesSpec)

/-- 'balefirelaw03.DividesTwice', WHERE WHAT IT READS IS OF BULK AT MOST 1048576: true; the input reads as it did. -/
def dividesTwiceUptoRow : OpenClaim := { program := "ytadnjamkjoclbaa", sum := "7ef63e61b3b1d37587fc1ad48b613344625d78c7fe2e282aae6f6b97f6491d20", func := "balefire/balefirelaw03.DividesTwice", spec := "dividesTwice", inPlace := ["math/bits.Add64", "math/bits.Sub64"], unfollowed := true, recurses := true, named := ["math/bits.divideError", "math/bits.overflowError"], apart := false, narrowed := true }
def DividesTwiceUptoSaid : Prop := dividesTwiceUptoRow.holds Try.pinned (OpenSpec.upto dividesTwiceSpec)

/-- 'balefirelaw03.DividesBack', WHERE WHAT IT READS IS OF BULK AT MOST 1048576: true; the input reads as it did. -/
def dividesBackUptoRow : OpenClaim := { program := "ytadnjamkjoclbaa", sum := "7ef63e61b3b1d37587fc1ad48b613344625d78c7fe2e282aae6f6b97f6491d20", func := "balefire/balefirelaw03.DividesBack", spec := "dividesBack", inPlace := ["math/bits.Add64", "math/bits.Sub64"], unfollowed := true, recurses := true, named := ["math/bits.divideError", "math/bits.overflowError"], apart := false, narrowed := true }
def DividesBackUptoSaid : Prop := dividesBackUptoRow.holds Try.pinned (OpenSpec.upto dividesBackSpec)

/-- 'balefirelaw04.ModsOf', WHERE WHAT IT READS IS OF BULK AT MOST 1048576: true; the input reads as it did. -/
def modsOfUptoRow : OpenClaim := { program := "ytadnjamkjoclbaa", sum := "7ef63e61b3b1d37587fc1ad48b613344625d78c7fe2e282aae6f6b97f6491d20", func := "balefire/balefirelaw04.ModsOf", spec := "modsOf", inPlace := ["math/bits.Add64", "math/bits.Sub64"], unfollowed := true, recurses := true, named := ["math/bits.divideError", "math/bits.overflowError"], apart := false, narrowed := true }
def ModsOfUptoSaid : Prop := modsOfUptoRow.holds Try.pinned (OpenSpec.upto modsOfSpec)

/-- 'balefirelaw04.ModsLaws', WHERE WHAT IT READS IS OF BULK AT MOST 1048576: true; the input reads as it did. -/
def modsLawsUptoRow : OpenClaim := { program := "ytadnjamkjoclbaa", sum := "7ef63e61b3b1d37587fc1ad48b613344625d78c7fe2e282aae6f6b97f6491d20", func := "balefire/balefirelaw04.ModsLaws", spec := "modsLaws", inPlace := ["math/bits.Sub64", "math/bits.Add64"], unfollowed := true, recurses := true, named := ["math/bits.divideError", "math/bits.overflowError"], apart := false, narrowed := true }
def ModsLawsUptoSaid : Prop := modsLawsUptoRow.holds Try.pinned (OpenSpec.upto modsLawsSpec)

/-- 'balefirelaw04.ModsWhole', WHERE WHAT IT READS IS OF BULK AT MOST 1048576: true; the input reads as it did. -/
def modsWholeUptoRow : OpenClaim := { program := "ytadnjamkjoclbaa", sum := "7ef63e61b3b1d37587fc1ad48b613344625d78c7fe2e282aae6f6b97f6491d20", func := "balefire/balefirelaw04.ModsWhole", spec := "modsWhole", inPlace := ["math/bits.Sub64", "math/bits.Add64"], unfollowed := true, recurses := true, named := ["math/bits.divideError", "math/bits.overflowError"], apart := false, narrowed := true }
def ModsWholeUptoSaid : Prop := modsWholeUptoRow.holds Try.pinned (OpenSpec.upto modsWholeSpec)

/-- 'balefirelaw04.ModsPowers', WHERE WHAT IT READS IS OF BULK AT MOST 1048576: true; the input reads as it did. -/
def modsPowersUptoRow : OpenClaim := { program := "ytadnjamkjoclbaa", sum := "7ef63e61b3b1d37587fc1ad48b613344625d78c7fe2e282aae6f6b97f6491d20", func := "balefire/balefirelaw04.ModsPowers", spec := "modsPowers", inPlace := ["math/bits.Sub64", "math/bits.Add64"], unfollowed := true, recurses := true, named := ["math/bits.divideError", "math/bits.overflowError"], apart := false, narrowed := true }
def ModsPowersUptoSaid : Prop := modsPowersUptoRow.holds Try.pinned (OpenSpec.upto modsPowersSpec)

/-- 'balefirelaw04.ModsInverse', WHERE WHAT IT READS IS OF BULK AT MOST 1048576: true; the input reads as it did. -/
def modsInverseUptoRow : OpenClaim := { program := "ytadnjamkjoclbaa", sum := "7ef63e61b3b1d37587fc1ad48b613344625d78c7fe2e282aae6f6b97f6491d20", func := "balefire/balefirelaw04.ModsInverse", spec := "modsInverse", inPlace := ["math/bits.Sub64", "math/bits.Add64"], unfollowed := true, recurses := true, named := ["math/bits.divideError", "math/bits.overflowError"], apart := false, narrowed := true }
def ModsInverseUptoSaid : Prop := modsInverseUptoRow.holds Try.pinned (OpenSpec.upto modsInverseSpec)

/-- 'balefirelaw04.ModsRefuse', WHERE WHAT IT READS IS OF BULK AT MOST 1048576: true; the input reads as it did. -/
def modsRefuseUptoRow : OpenClaim := { program := "ytadnjamkjoclbaa", sum := "7ef63e61b3b1d37587fc1ad48b613344625d78c7fe2e282aae6f6b97f6491d20", func := "balefire/balefirelaw04.ModsRefuse", spec := "modsRefuse", inPlace := ["math/bits.Sub64", "math/bits.Add64"], unfollowed := true, recurses := true, named := ["math/bits.divideError", "math/bits.overflowError"], apart := false, narrowed := true }
def ModsRefuseUptoSaid : Prop := modsRefuseUptoRow.holds Try.pinned (OpenSpec.upto modsRefuseSpec)

/-- 'balefirelaw04.ModsTwo', WHERE WHAT IT READS IS OF BULK AT MOST 1048576: true; the input reads as it did. -/
def modsTwoUptoRow : OpenClaim := { program := "ytadnjamkjoclbaa", sum := "7ef63e61b3b1d37587fc1ad48b613344625d78c7fe2e282aae6f6b97f6491d20", func := "balefire/balefirelaw04.ModsTwo", spec := "modsTwo", inPlace := ["math/bits.Add64", "math/bits.Sub64"], unfollowed := true, recurses := true, named := ["math/bits.divideError", "math/bits.overflowError"], apart := false, narrowed := true }
def ModsTwoUptoSaid : Prop := modsTwoUptoRow.holds Try.pinned (OpenSpec.upto modsTwoSpec)

end Rows
end Go.Proofs.Ytadnjamkjoclbaa
