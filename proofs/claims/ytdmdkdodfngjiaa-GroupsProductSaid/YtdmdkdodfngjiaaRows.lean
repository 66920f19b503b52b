/-
  NARROWER THAN 'FOR EVERY INPUT', by the rows' own cells (each row's printed sentence says how): GroupsCheck: loops · PrimesCheck: loops · PrimesProduct: loops · PrimesParts: loops · PrimesTurned: loops · PrimesLeft: loops.
  DERIVED. THE GIVEN ROWS OF THIS SEAT. 14 by the template 'for every input the law returns true; each argument reads behind the call as it read before'; 0 by the template 'total and deterministic' (their statements: YtdmdkdodfngjiaaTotals.lean).
  GIVEN WITH THE SEED: the statements are not yours to turn. If you find one false, say at which input.
  Laid BY PROGRAM, IN A SANDBOX (cutbox-rows.mjs): the forced cells as the released guide's own fill.sh prints them over the translation 32cbd9119f4162c9… (all of the seat's roots in one cut). By AI agents, Wed Nov 11 2026. No macro, syntax, notation, axiom, sorry.
-/
import Derived.Test.YtdmdkdodfngjiaaChecked
import GoSem.Claim
import GoSem.ClaimJoined
import GoSem.ClaimMapViews
import Derived.JoinedTies
import Derived.KernelRfl
namespace Go.Proofs.Ytdmdkdodfngjiaa
/- THE CELL 'sum', in the pinned program and in every row, IS THE sha256 OF THE DUMP (.gsa) THAT YtdmdkdodfngjiaaProg.lean LOADS. Nothing in Lean hashes anything: it is a label: what it is worth is what the hold of that sum in a sandbox is worth. -/
noncomputable def Try.pinned : Pinned := { name := "ytdmdkdodfngjiaa", sum := "32cbd9119f4162c954ab7861b240964809111a8f71f5a7d100ab19ad3f809ad1", checked := Try.checked }
namespace Rows
def none {H : Type} : Left H := { results := [], args := [] }

/-- 'balefirelaw03.DividesOf': WHATEVER THE INPUT: true; the input reads as it did. -/
def dividesOfSpec : ChangeSpec := { name := "dividesOf", fn := fun _ => fun
  | [d] => { results := [.lit (.bool true)], args := [d] }
  | _ => none }
def dividesOfRow : OpenClaim := { program := "ytdmdkdodfngjiaa", sum := "32cbd9119f4162c954ab7861b240964809111a8f71f5a7d100ab19ad3f809ad1", func := "balefire/balefirelaw03.DividesOf", spec := "dividesOf", inPlace := ["math/bits.Add64", "math/bits.Sub64"], unfollowed := true, recurses := true, named := ["math/bits.divideError", "math/bits.overflowError"], apart := false }
def DividesOfSaid : Prop := dividesOfRow.holds Try.pinned (OpenSpec.ofChange dividesOfSpec)

/-- ITS FALSE NEIGHBOUR: 'it returns false'. Refute it at one input. -/
def dividesOfWrong : ChangeSpec := { name := "dividesOf", fn := fun _ => fun
  | [d] => { results := [.lit (.bool false)], args := [d] }
  | _ => none }
def DividesOfWrongFalsely : Prop := dividesOfRow.holds Try.pinned (OpenSpec.ofChange dividesOfWrong)

/-- 'balefirelaw04.ModsOf': WHATEVER THE INPUT: true; the input reads as it did. -/
def modsOfSpec : ChangeSpec := { name := "modsOf", fn := fun _ => fun
  | [d1, d2, d3] => { results := [.lit (.bool true)], args := [d1, d2, d3] }
  | _ => none }
def modsOfRow : OpenClaim := { program := "ytdmdkdodfngjiaa", sum := "32cbd9119f4162c954ab7861b240964809111a8f71f5a7d100ab19ad3f809ad1", func := "balefire/balefirelaw04.ModsOf", spec := "modsOf", inPlace := ["math/bits.Add64", "math/bits.Sub64"], unfollowed := true, recurses := true, named := ["math/bits.divideError", "math/bits.overflowError"], apart := false }
def ModsOfSaid : Prop := modsOfRow.holds Try.pinned (OpenSpec.ofChange modsOfSpec)

/-- ITS FALSE NEIGHBOUR: 'it returns false'. Refute it at one input. -/
def modsOfWrong : ChangeSpec := { name := "modsOf", fn := fun _ => fun
  | [d1, d2, d3] => { results := [.lit (.bool false)], args := [d1, d2, d3] }
  | _ => none }
def ModsOfWrongFalsely : Prop := modsOfRow.holds Try.pinned (OpenSpec.ofChange modsOfWrong)

/-- 'balefirelaw09.ScalarsOf': WHATEVER THE INPUT: true; the input reads as it did. -/
def scalarsOfSpec : ChangeSpec := { name := "scalarsOf", fn := fun _ => fun
  | [d1, d2, d3] => { results := [.lit (.bool true)], args := [d1, d2, d3] }
  | _ => none }
def scalarsOfRow : OpenClaim := { program := "ytdmdkdodfngjiaa", sum := "32cbd9119f4162c954ab7861b240964809111a8f71f5a7d100ab19ad3f809ad1", func := "balefire/balefirelaw09.ScalarsOf", spec := "scalarsOf", inPlace := ["math/bits.Add64", "math/bits.Sub64"], unfollowed := true, recurses := true, named := ["math/bits.divideError", "math/bits.overflowError"], apart := false }
def ScalarsOfSaid : Prop := scalarsOfRow.holds Try.pinned (OpenSpec.ofChange scalarsOfSpec)

/-- ITS FALSE NEIGHBOUR: 'it returns false'. Refute it at one input. -/
def scalarsOfWrong : ChangeSpec := { name := "scalarsOf", fn := fun _ => fun
  | [d1, d2, d3] => { results := [.lit (.bool false)], args := [d1, d2, d3] }
  | _ => none }
def ScalarsOfWrongFalsely : Prop := scalarsOfRow.holds Try.pinned (OpenSpec.ofChange scalarsOfWrong)

/-- 'balefirelaw08.GroupsOf': WHATEVER THE INPUT: true; the input reads as it did. -/
def groupsOfSpec : ChangeSpec := { name := "groupsOf", fn := fun _ => fun
  | [d1, d2, d3] => { results := [.lit (.bool true)], args := [d1, d2, d3] }
  | _ => none }
def groupsOfRow : OpenClaim := { program := "ytdmdkdodfngjiaa", sum := "32cbd9119f4162c954ab7861b240964809111a8f71f5a7d100ab19ad3f809ad1", func := "balefire/balefirelaw08.GroupsOf", spec := "groupsOf", inPlace := ["math/bits.Sub64", "math/bits.Add64"], unfollowed := true, recurses := true, named := ["math/bits.divideError", "math/bits.overflowError"], apart := false }
def GroupsOfSaid : Prop := groupsOfRow.holds Try.pinned (OpenSpec.ofChange groupsOfSpec)

/-- ITS FALSE NEIGHBOUR: 'it returns false'. Refute it at one input. -/
def groupsOfWrong : ChangeSpec := { name := "groupsOf", fn := fun _ => fun
  | [d1, d2, d3] => { results := [.lit (.bool false)], args := [d1, d2, d3] }
  | _ => none }
def GroupsOfWrongFalsely : Prop := groupsOfRow.holds Try.pinned (OpenSpec.ofChange groupsOfWrong)

/-- 'balefirelaw08.GroupsClosed': WHATEVER THE INPUT: true; the input reads as it did. -/
def groupsClosedSpec : ChangeSpec := { name := "groupsClosed", fn := fun _ => fun
  | [d1, d2, d3] => { results := [.lit (.bool true)], args := [d1, d2, d3] }
  | _ => none }
def groupsClosedRow : OpenClaim := { program := "ytdmdkdodfngjiaa", sum := "32cbd9119f4162c954ab7861b240964809111a8f71f5a7d100ab19ad3f809ad1", func := "balefire/balefirelaw08.GroupsClosed", spec := "groupsClosed", inPlace := ["math/bits.Sub64", "math/bits.Add64"], unfollowed := true, recurses := true, named := ["math/bits.divideError", "math/bits.overflowError"], apart := false }
def GroupsClosedSaid : Prop := groupsClosedRow.holds Try.pinned (OpenSpec.ofChange groupsClosedSpec)

/-- ITS FALSE NEIGHBOUR: 'it returns false'. Refute it at one input. -/
def groupsClosedWrong : ChangeSpec := { name := "groupsClosed", fn := fun _ => fun
  | [d1, d2, d3] => { results := [.lit (.bool false)], args := [d1, d2, d3] }
  | _ => none }
def GroupsClosedWrongFalsely : Prop := groupsClosedRow.holds Try.pinned (OpenSpec.ofChange groupsClosedWrong)

/-- 'balefirelaw08.GroupsRound': WHATEVER THE INPUT: true; the input reads as it did. -/
def groupsRoundSpec : ChangeSpec := { name := "groupsRound", fn := fun _ => fun
  | [d1, d2, d3] => { results := [.lit (.bool true)], args := [d1, d2, d3] }
  | _ => none }
def groupsRoundRow : OpenClaim := { program := "ytdmdkdodfngjiaa", sum := "32cbd9119f4162c954ab7861b240964809111a8f71f5a7d100ab19ad3f809ad1", func := "balefire/balefirelaw08.GroupsRound", spec := "groupsRound", inPlace := ["math/bits.Sub64", "math/bits.Add64"], unfollowed := true, recurses := true, named := ["math/bits.divideError", "math/bits.overflowError"], apart := false }
def GroupsRoundSaid : Prop := groupsRoundRow.holds Try.pinned (OpenSpec.ofChange groupsRoundSpec)

/-- ITS FALSE NEIGHBOUR: 'it returns false'. Refute it at one input. -/
def groupsRoundWrong : ChangeSpec := { name := "groupsRound", fn := fun _ => fun
  | [d1, d2, d3] => { results := [.lit (.bool false)], args := [d1, d2, d3] }
  | _ => none }
def GroupsRoundWrongFalsely : Prop := groupsRoundRow.holds Try.pinned (OpenSpec.ofChange groupsRoundWrong)

/-- 'balefirelaw08.GroupsProduct': WHATEVER THE INPUT: true; the input reads as it did. -/
def groupsProductSpec : ChangeSpec := { name := "groupsProduct", fn := fun _ => fun
  | [d1, d2, d3] => { results := [.lit (.bool true)], args := [d1, d2, d3] }
  | _ => none }
def groupsProductRow : OpenClaim := { program := "ytdmdkdodfngjiaa", sum := "32cbd9119f4162c954ab7861b240964809111a8f71f5a7d100ab19ad3f809ad1", func := "balefire/balefirelaw08.GroupsProduct", spec := "groupsProduct", inPlace := ["math/bits.Sub64", "math/bits.Add64"], unfollowed := true, recurses := true, named := ["math/bits.divideError", "math/bits.overflowError"], apart := false }
def GroupsProductSaid : Prop := groupsProductRow.holds Try.pinned (OpenSpec.ofChange groupsProductSpec)

/-- ITS FALSE NEIGHBOUR: 'it returns false'. Refute it at one input. -/
def groupsProductWrong : ChangeSpec := { name := "groupsProduct", fn := fun _ => fun
  | [d1, d2, d3] => { results := [.lit (.bool false)], args := [d1, d2, d3] }
  | _ => none }
def GroupsProductWrongFalsely : Prop := groupsProductRow.holds Try.pinned (OpenSpec.ofChange groupsProductWrong)

/-- 'balefirelaw08.GroupsRoot': WHATEVER THE INPUT: true; the input reads as it did. -/
def groupsRootSpec : ChangeSpec := { name := "groupsRoot", fn := fun _ => fun
  | [d1, d2, d3] => { results := [.lit (.bool true)], args := [d1, d2, d3] }
  | _ => none }
def groupsRootRow : OpenClaim := { program := "ytdmdkdodfngjiaa", sum := "32cbd9119f4162c954ab7861b240964809111a8f71f5a7d100ab19ad3f809ad1", func := "balefire/balefirelaw08.GroupsRoot", spec := "groupsRoot", inPlace := ["math/bits.Sub64", "math/bits.Add64"], unfollowed := true, recurses := true, named := ["math/bits.divideError", "math/bits.overflowError"], apart := false }
def GroupsRootSaid : Prop := groupsRootRow.holds Try.pinned (OpenSpec.ofChange groupsRootSpec)

/-- ITS FALSE NEIGHBOUR: 'it returns false'. Refute it at one input. -/
def groupsRootWrong : ChangeSpec := { name := "groupsRoot", fn := fun _ => fun
  | [d1, d2, d3] => { results := [.lit (.bool false)], args := [d1, d2, d3] }
  | _ => none }
def GroupsRootWrongFalsely : Prop := groupsRootRow.holds Try.pinned (OpenSpec.ofChange groupsRootWrong)

/-- 'balefirelaw08.GroupsCheck': WHATEVER THE INPUT: true; the input reads as it did. -/
def groupsCheckSpec : ChangeSpec := { name := "groupsCheck", fn := fun _ => fun
  | [d1, d2, d3] => { results := [.lit (.bool true)], args := [d1, d2, d3] }
  | _ => none }
def groupsCheckRow : OpenClaim := { program := "ytdmdkdodfngjiaa", sum := "32cbd9119f4162c954ab7861b240964809111a8f71f5a7d100ab19ad3f809ad1", func := "balefire/balefirelaw08.GroupsCheck", spec := "groupsCheck", inPlace := ["math/bits.Sub64", "math/bits.Add64"], unfollowed := true, recurses := true, named := ["math/bits.divideError", "math/bits.overflowError"], loops := true, apart := false }
def GroupsCheckSaid : Prop := groupsCheckRow.holds Try.pinned (OpenSpec.ofChange groupsCheckSpec)

/-- ITS FALSE NEIGHBOUR: 'it returns false'. Refute it at one input. -/
def groupsCheckWrong : ChangeSpec := { name := "groupsCheck", fn := fun _ => fun
  | [d1, d2, d3] => { results := [.lit (.bool false)], args := [d1, d2, d3] }
  | _ => none }
def GroupsCheckWrongFalsely : Prop := groupsCheckRow.holds Try.pinned (OpenSpec.ofChange groupsCheckWrong)

/-- 'balefirelaw07.PrimesCheck': WHATEVER THE INPUT: true; the input reads as it did. -/
def primesCheckSpec : ChangeSpec := { name := "primesCheck", fn := fun _ => fun
  | [d] => { results := [.lit (.bool true)], args := [d] }
  | _ => none }
def primesCheckRow : OpenClaim := { program := "ytdmdkdodfngjiaa", sum := "32cbd9119f4162c954ab7861b240964809111a8f71f5a7d100ab19ad3f809ad1", func := "balefire/balefirelaw07.PrimesCheck", spec := "primesCheck", inPlace := ["math/bits.Sub64", "math/bits.Add64"], unfollowed := true, recurses := true, named := ["math/bits.divideError", "math/bits.overflowError"], loops := true, apart := false }
def PrimesCheckSaid : Prop := primesCheckRow.holds Try.pinned (OpenSpec.ofChange primesCheckSpec)

/-- ITS FALSE NEIGHBOUR: 'it returns false'. Refute it at one input. -/
def primesCheckWrong : ChangeSpec := { name := "primesCheck", fn := fun _ => fun
  | [d] => { results := [.lit (.bool false)], args := [d] }
  | _ => none }
def PrimesCheckWrongFalsely : Prop := primesCheckRow.holds Try.pinned (OpenSpec.ofChange primesCheckWrong)

/-- 'balefirelaw07.PrimesProduct': WHATEVER THE INPUT: true; the input reads as it did. -/
def primesProductSpec : ChangeSpec := { name := "primesProduct", fn := fun _ => fun
  | [d1, d2, d3] => { results := [.lit (.bool true)], args := [d1, d2, d3] }
  | _ => none }
def primesProductRow : OpenClaim := { program := "ytdmdkdodfngjiaa", sum := "32cbd9119f4162c954ab7861b240964809111a8f71f5a7d100ab19ad3f809ad1", func := "balefire/balefirelaw07.PrimesProduct", spec := "primesProduct", inPlace := ["math/bits.Sub64", "math/bits.Add64"], unfollowed := true, recurses := true, named := ["math/bits.divideError", "math/bits.overflowError"], loops := true, apart := false }
def PrimesProductSaid : Prop := primesProductRow.holds Try.pinned (OpenSpec.ofChange primesProductSpec)

/-- ITS FALSE NEIGHBOUR: 'it returns false'. Refute it at one input. -/
def primesProductWrong : ChangeSpec := { name := "primesProduct", fn := fun _ => fun
  | [d1, d2, d3] => { results := [.lit (.bool false)], args := [d1, d2, d3] }
  | _ => none }
def PrimesProductWrongFalsely : Prop := primesProductRow.holds Try.pinned (OpenSpec.ofChange primesProductWrong)

/-- 'balefirelaw07.PrimesParts': WHATEVER THE INPUT: true; the input reads as it did. -/
def primesPartsSpec : ChangeSpec := { name := "primesParts", fn := fun _ => fun
  | [d] => { results := [.lit (.bool true)], args := [d] }
  | _ => none }
def primesPartsRow : OpenClaim := { program := "ytdmdkdodfngjiaa", sum := "32cbd9119f4162c954ab7861b240964809111a8f71f5a7d100ab19ad3f809ad1", func := "balefire/balefirelaw07.PrimesParts", spec := "primesParts", inPlace := ["math/bits.Sub64", "math/bits.Add64"], unfollowed := true, recurses := true, named := ["math/bits.divideError", "math/bits.overflowError"], loops := true, apart := false }
def PrimesPartsSaid : Prop := primesPartsRow.holds Try.pinned (OpenSpec.ofChange primesPartsSpec)

/-- ITS FALSE NEIGHBOUR: 'it returns false'. Refute it at one input. -/
def primesPartsWrong : ChangeSpec := { name := "primesParts", fn := fun _ => fun
  | [d] => { results := [.lit (.bool false)], args := [d] }
  | _ => none }
def PrimesPartsWrongFalsely : Prop := primesPartsRow.holds Try.pinned (OpenSpec.ofChange primesPartsWrong)

/-- 'balefirelaw07.PrimesTurned': WHATEVER THE INPUT: true; the input reads as it did. -/
def primesTurnedSpec : ChangeSpec := { name := "primesTurned", fn := fun _ => fun
  | [d1, d2] => { results := [.lit (.bool true)], args := [d1, d2] }
  | _ => none }
def primesTurnedRow : OpenClaim := { program := "ytdmdkdodfngjiaa", sum := "32cbd9119f4162c954ab7861b240964809111a8f71f5a7d100ab19ad3f809ad1", func := "balefire/balefirelaw07.PrimesTurned", spec := "primesTurned", inPlace := ["math/bits.Sub64", "math/bits.Add64"], unfollowed := true, recurses := true, named := ["math/bits.divideError", "math/bits.overflowError"], loops := true, apart := false }
def PrimesTurnedSaid : Prop := primesTurnedRow.holds Try.pinned (OpenSpec.ofChange primesTurnedSpec)

/-- ITS FALSE NEIGHBOUR: 'it returns false'. Refute it at one input. -/
def primesTurnedWrong : ChangeSpec := { name := "primesTurned", fn := fun _ => fun
  | [d1, d2] => { results := [.lit (.bool false)], args := [d1, d2] }
  | _ => none }
def PrimesTurnedWrongFalsely : Prop := primesTurnedRow.holds Try.pinned (OpenSpec.ofChange primesTurnedWrong)

/-- 'balefirelaw07.PrimesLeft': WHATEVER THE INPUT: true; the input reads as it did. -/
def primesLeftSpec : ChangeSpec := { name := "primesLeft", fn := fun _ => fun
  | [d1, d2] => { results := [.lit (.bool true)], args := [d1, d2] }
  | _ => none }
def primesLeftRow : OpenClaim := { program := "ytdmdkdodfngjiaa", sum := "32cbd9119f4162c954ab7861b240964809111a8f71f5a7d100ab19ad3f809ad1", func := "balefire/balefirelaw07.PrimesLeft", spec := "primesLeft", inPlace := ["math/bits.Sub64", "math/bits.Add64"], unfollowed := true, recurses := true, named := ["math/bits.divideError", "math/bits.overflowError"], loops := true, apart := false }
def PrimesLeftSaid : Prop := primesLeftRow.holds Try.pinned (OpenSpec.ofChange primesLeftSpec)

/-- ITS FALSE NEIGHBOUR: 'it returns false'. Refute it at one input. -/
def primesLeftWrong : ChangeSpec := { name := "primesLeft", fn := fun _ => fun
  | [d1, d2] => { results := [.lit (.bool false)], args := [d1, d2] }
  | _ => none }
def PrimesLeftWrongFalsely : Prop := primesLeftRow.holds Try.pinned (OpenSpec.ofChange primesLeftWrong)

/- THE SECOND FORM. 'bulk': how many values and letters a reading holds, each counted each time it is reached (what is shared counts as often as it is met; a slice's spare places count too). A statement '..UptoSaid' is the law's where the arguments, and the package variables that the reading takes, are together of bulk at most 1048576: NARROWER than '..Said'. Prove '..Said' where nothing that the law and all that it calls make is longer than what came in: it says more and counts as full. Else prove '..UptoSaid'. A law counts once. -/
mutual
def uptoBulk {H : Type} : DataW H → Nat
  | .lit (.string bytes) => bytes.length + 1
  | .lit _ => 1
  | .nil => 1
  | .ptr d => uptoBulk d + 1
  | .slice elems spare => uptoBulkAll elems + uptoBulkAll spare + 1
  | .agg parts => uptoBulkAll parts + 1
  | .iface _ d => uptoBulk d + 1
  | .map entries => uptoBulkEntries entries + 1
  | .held _ => 1
def uptoBulkAll {H : Type} : List (DataW H) → Nat
  | [] => 0
  | d :: r => uptoBulk d + uptoBulkAll r
def uptoBulkEntries {H : Type} : List (Lit × DataW H) → Nat
  | [] => 0
  | x :: r => uptoBulkEntry x + uptoBulkEntries r
def uptoBulkEntry {H : Type} : Lit × DataW H → Nat
  | (.string bytes, d) => bytes.length + uptoBulk d + 1
  | (_, d) => uptoBulk d + 1
 end
def uptoSmall : (H : Type) → List (DataW H) → Bool := fun _ ds => decide (uptoBulkAll ds ≤ 1048576)
def OpenSpec.upto (s : _root_.Go.ChangeSpec) : _root_.Go.OpenSpec := { _root_.Go.OpenSpec.ofChange s with cond := some uptoSmall }

/-- 'balefirelaw03.DividesOf', WHERE WHAT IT READS IS OF BULK AT MOST 1048576: true; the input reads as it did. -/
def dividesOfUptoRow : OpenClaim := { program := "ytdmdkdodfngjiaa", sum := "32cbd9119f4162c954ab7861b240964809111a8f71f5a7d100ab19ad3f809ad1", func := "balefire/balefirelaw03.DividesOf", spec := "dividesOf", inPlace := ["math/bits.Add64", "math/bits.Sub64"], unfollowed := true, recurses := true, named := ["math/bits.divideError", "math/bits.overflowError"], apart := false, narrowed := true }
def DividesOfUptoSaid : Prop := dividesOfUptoRow.holds Try.pinned (OpenSpec.upto dividesOfSpec)

/-- 'balefirelaw04.ModsOf', WHERE WHAT IT READS IS OF BULK AT MOST 1048576: true; the input reads as it did. -/
def modsOfUptoRow : OpenClaim := { program := "ytdmdkdodfngjiaa", sum := "32cbd9119f4162c954ab7861b240964809111a8f71f5a7d100ab19ad3f809ad1", func := "balefire/balefirelaw04.ModsOf", spec := "modsOf", inPlace := ["math/bits.Add64", "math/bits.Sub64"], unfollowed := true, recurses := true, named := ["math/bits.divideError", "math/bits.overflowError"], apart := false, narrowed := true }
def ModsOfUptoSaid : Prop := modsOfUptoRow.holds Try.pinned (OpenSpec.upto modsOfSpec)

/-- 'balefirelaw09.ScalarsOf', WHERE WHAT IT READS IS OF BULK AT MOST 1048576: true; the input reads as it did. -/
def scalarsOfUptoRow : OpenClaim := { program := "ytdmdkdodfngjiaa", sum := "32cbd9119f4162c954ab7861b240964809111a8f71f5a7d100ab19ad3f809ad1", func := "balefire/balefirelaw09.ScalarsOf", spec := "scalarsOf", inPlace := ["math/bits.Add64", "math/bits.Sub64"], unfollowed := true, recurses := true, named := ["math/bits.divideError", "math/bits.overflowError"], apart := false, narrowed := true }
def ScalarsOfUptoSaid : Prop := scalarsOfUptoRow.holds Try.pinned (OpenSpec.upto scalarsOfSpec)

/-- 'balefirelaw08.GroupsOf', WHERE WHAT IT READS IS OF BULK AT MOST 1048576: true; the input reads as it did. -/
def groupsOfUptoRow : OpenClaim := { program := "ytdmdkdodfngjiaa", sum := "32cbd9119f4162c954ab7861b240964809111a8f71f5a7d100ab19ad3f809ad1", func := "balefire/balefirelaw08.GroupsOf", spec := "groupsOf", inPlace := ["math/bits.Sub64", "math/bits.Add64"], unfollowed := true, recurses := true, named := ["math/bits.divideError", "math/bits.overflowError"], apart := false, narrowed := true }
def GroupsOfUptoSaid : Prop := groupsOfUptoRow.holds Try.pinned (OpenSpec.upto groupsOfSpec)

/-- 'balefirelaw08.GroupsClosed', WHERE WHAT IT READS IS OF BULK AT MOST 1048576: true; the input reads as it did. -/
def groupsClosedUptoRow : OpenClaim := { program := "ytdmdkdodfngjiaa", sum := "32cbd9119f4162c954ab7861b240964809111a8f71f5a7d100ab19ad3f809ad1", func := "balefire/balefirelaw08.GroupsClosed", spec := "groupsClosed", inPlace := ["math/bits.Sub64", "math/bits.Add64"], unfollowed := true, recurses := true, named := ["math/bits.divideError", "math/bits.overflowError"], apart := false, narrowed := true }
def GroupsClosedUptoSaid : Prop := groupsClosedUptoRow.holds Try.pinned (OpenSpec.upto groupsClosedSpec)

/-- 'balefirelaw08.GroupsRound', WHERE WHAT IT READS IS OF BULK AT MOST 1048576: true; the input reads as it did. -/
def groupsRoundUptoRow : OpenClaim := { program := "ytdmdkdodfngjiaa", sum := "32cbd9119f4162c954ab7861b240964809111a8f71f5a7d100ab19ad3f809ad1", func := "balefire/balefirelaw08.GroupsRound", spec := "groupsRound", inPlace := ["math/bits.Sub64", "math/bits.Add64"], unfollowed := true, recurses := true, named := ["math/bits.divideError", "math/bits.overflowError"], apart := false, narrowed := true }
def GroupsRoundUptoSaid : Prop := groupsRoundUptoRow.holds Try.pinned (OpenSpec.upto groupsRoundSpec)

/-- 'balefirelaw08.GroupsProduct', WHERE WHAT IT READS IS OF BULK AT MOST 1048576: true; the input reads as it did. -/
def groupsProductUptoRow : OpenClaim := { program := "ytdmdkdodfngjiaa", sum := "32cbd9119f4162c954ab7861b240964809111a8f71f5a7d100ab19ad3f809ad1", func := "balefire/balefirelaw08.GroupsProduct", spec := "groupsProduct", inPlace := ["math/bits.Sub64", "math/bits.Add64"], unfollowed := true, recurses := true, named := ["math/bits.divideError", "math/bits.overflowError"], apart := false, narrowed := true }
def GroupsProductUptoSaid : Prop := groupsProductUptoRow.holds Try.pinned (OpenSpec.upto groupsProductSpec)

/-- 'balefirelaw08.GroupsRoot', WHERE WHAT IT READS IS OF BULK AT MOST 1048576: true; the input reads as it did. -/
def groupsRootUptoRow : OpenClaim := { program := "ytdmdkdodfngjiaa", sum := "32cbd9119f4162c954ab7861b240964809111a8f71f5a7d100ab19ad3f809ad1", func := "balefire/balefirelaw08.GroupsRoot", spec := "groupsRoot", inPlace := ["math/bits.Sub64", "math/bits.Add64"], unfollowed := true, recurses := true, named := ["math/bits.divideError", "math/bits.overflowError"], apart := false, narrowed := true }
def GroupsRootUptoSaid : Prop := groupsRootUptoRow.holds Try.pinned (OpenSpec.upto groupsRootSpec)

/-- 'balefirelaw08.GroupsCheck', WHERE WHAT IT READS IS OF BULK AT MOST 1048576: true; the input reads as it did. -/
def groupsCheckUptoRow : OpenClaim := { program := "ytdmdkdodfngjiaa", sum := "32cbd9119f4162c954ab7861b240964809111a8f71f5a7d100ab19ad3f809ad1", func := "balefire/balefirelaw08.GroupsCheck", spec := "groupsCheck", inPlace := ["math/bits.Sub64", "math/bits.Add64"], unfollowed := true, recurses := true, named := ["math/bits.divideError", "math/bits.overflowError"], loops := true, apart := false, narrowed := true }
def GroupsCheckUptoSaid : Prop := groupsCheckUptoRow.holds Try.pinned (OpenSpec.upto groupsCheckSpec)

/-- 'balefirelaw07.PrimesCheck', WHERE WHAT IT READS IS OF BULK AT MOST 1048576: true; the input reads as it did. -/
def primesCheckUptoRow : OpenClaim := { program := "ytdmdkdodfngjiaa", sum := "32cbd9119f4162c954ab7861b240964809111a8f71f5a7d100ab19ad3f809ad1", func := "balefire/balefirelaw07.PrimesCheck", spec := "primesCheck", inPlace := ["math/bits.Sub64", "math/bits.Add64"], unfollowed := true, recurses := true, named := ["math/bits.divideError", "math/bits.overflowError"], loops := true, apart := false, narrowed := true }
def PrimesCheckUptoSaid : Prop := primesCheckUptoRow.holds Try.pinned (OpenSpec.upto primesCheckSpec)

/-- 'balefirelaw07.PrimesProduct', WHERE WHAT IT READS IS OF BULK AT MOST 1048576: true; the input reads as it did. -/
def primesProductUptoRow : OpenClaim := { program := "ytdmdkdodfngjiaa", sum := "32cbd9119f4162c954ab7861b240964809111a8f71f5a7d100ab19ad3f809ad1", func := "balefire/balefirelaw07.PrimesProduct", spec := "primesProduct", inPlace := ["math/bits.Sub64", "math/bits.Add64"], unfollowed := true, recurses := true, named := ["math/bits.divideError", "math/bits.overflowError"], loops := true, apart := false, narrowed := true }
def PrimesProductUptoSaid : Prop := primesProductUptoRow.holds Try.pinned (OpenSpec.upto primesProductSpec)

/-- 'balefirelaw07.PrimesParts', WHERE WHAT IT READS IS OF BULK AT MOST 1048576: true; the input reads as it did. -/
def primesPartsUptoRow : OpenClaim := { program := "ytdmdkdodfngjiaa", sum := "32cbd9119f4162c954ab7861b240964809111a8f71f5a7d100ab19ad3f809ad1", func := "balefire/balefirelaw07.PrimesParts", spec := "primesParts", inPlace := ["math/bits.Sub64", "math/bits.Add64"], unfollowed := true, recurses := true, named := ["math/bits.divideError", "math/bits.overflowError"], loops := true, apart := false, narrowed := true }
def PrimesPartsUptoSaid : Prop := primesPartsUptoRow.holds Try.pinned (OpenSpec.upto primesPartsSpec)

/-- 'balefirelaw07.PrimesTurned', WHERE WHAT IT READS IS OF BULK AT MOST 1048576: true; the input reads as it did. -/
def primesTurnedUptoRow : OpenClaim := { program := "ytdmdkdodfngjiaa", sum := "32cbd9119f4162c954ab7861b240964809111a8f71f5a7d100ab19ad3f809ad1", func := "balefire/balefirelaw07.PrimesTurned", spec := "primesTurned", inPlace := ["math/bits.Sub64", "math/bits.Add64"], unfollowed := true, recurses := true, named := ["math/bits.divideError", "math/bits.overflowError"], loops := true, apart := false, narrowed := true }
def PrimesTurnedUptoSaid : Prop := primesTurnedUptoRow.holds Try.pinned (OpenSpec.upto primesTurnedSpec)

/-- 'balefirelaw07.PrimesLeft', WHERE WHAT IT READS IS OF BULK AT MOST 1048576: true; the input reads as it did. -/
def primesLeftUptoRow : OpenClaim := { program := "ytdmdkdodfngjiaa", sum := "32cbd9119f4162c954ab7861b240964809111a8f71f5a7d100ab19ad3f809ad1", func := "balefire/balefirelaw07.PrimesLeft", spec := "primesLeft", inPlace := ["math/bits.Sub64", "math/bits.Add64"], unfollowed := true, recurses := true, named := ["math/bits.divideError", "math/bits.overflowError"], loops := true, apart := false, narrowed := true }
def PrimesLeftUptoSaid : Prop := primesLeftUptoRow.holds Try.pinned (OpenSpec.upto primesLeftSpec)

end Rows
end Go.Proofs.Ytdmdkdodfngjiaa
