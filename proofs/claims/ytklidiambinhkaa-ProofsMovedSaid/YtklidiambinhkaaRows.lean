/-
  No cell of these rows narrows 'for every input' (looked for: loops, veiled, ifaces, maps, wideKeys, modest, calm, conditions, laid).
  DERIVED. THE GIVEN ROWS OF THIS SEAT. 9 by the template 'for every input the law returns true; each argument reads behind the call as it read before'; 0 by the template 'total and deterministic' (their statements: YtklidiambinhkaaTotals.lean).
  GIVEN WITH THE SEED: the statements are not yours to turn. If you find one false, say at which input.
  Laid BY PROGRAM, IN A SANDBOX (cutbox-rows.mjs): the forced cells as the released guide's own fill.sh prints them over the translation f4599f2f1c7fd313… (all of the seat's roots in one cut). By AI agents, Wed Nov 11 2026. No macro, syntax, notation, axiom, sorry.
-/
import Derived.Test.YtklidiambinhkaaChecked
import GoSem.Claim
import GoSem.ClaimJoined
import GoSem.ClaimMapViews
import Derived.JoinedTies
import Derived.KernelRfl
namespace Go.Proofs.Ytklidiambinhkaa
/- THE CELL 'sum', in the pinned program and in every row, IS THE sha256 OF THE DUMP (.gsa) THAT YtklidiambinhkaaProg.lean LOADS. Nothing in Lean hashes anything: it is a label: what it is worth is what the hold of that sum in a sandbox is worth. -/
noncomputable def Try.pinned : Pinned := { name := "ytklidiambinhkaa", sum := "f4599f2f1c7fd3136830fc5b97ca9ffa1dc734fdc93fdd9fc98dd1e6bec00105", checked := Try.checked }
namespace Rows
def none {H : Type} : Left H := { results := [], args := [] }

/-- 'balefirelaw13.SigsBounds': WHATEVER THE INPUT: true; the input reads as it did. -/
def sigsBoundsSpec : ChangeSpec := { name := "sigsBounds", fn := fun _ => fun
  | [d1, d2] => { results := [.lit (.bool true)], args := [d1, d2] }
  | _ => none }
def sigsBoundsRow : OpenClaim := { program := "ytklidiambinhkaa", sum := "f4599f2f1c7fd3136830fc5b97ca9ffa1dc734fdc93fdd9fc98dd1e6bec00105", func := "balefire/balefirelaw13.SigsBounds", spec := "sigsBounds", inPlace := ["math/bits.Sub64", "math/bits.Add64"], unfollowed := true, recurses := true, named := ["math/bits.divideError", "math/bits.overflowError"], apart := false }
def SigsBoundsSaid : Prop := sigsBoundsRow.holds Try.pinned (OpenSpec.ofChange sigsBoundsSpec)

/-- ITS FALSE NEIGHBOUR: 'it returns false'. Refute it at one input. -/
def sigsBoundsWrong : ChangeSpec := { name := "sigsBounds", fn := fun _ => fun
  | [d1, d2] => { results := [.lit (.bool false)], args := [d1, d2] }
  | _ => none }
def SigsBoundsWrongFalsely : Prop := sigsBoundsRow.holds Try.pinned (OpenSpec.ofChange sigsBoundsWrong)

/-- 'balefirelaw13.SigsBack': WHATEVER THE INPUT: true; the input reads as it did. -/
def sigsBackSpec : ChangeSpec := { name := "sigsBack", fn := fun _ => fun
  | [d1, d2, d3] => { results := [.lit (.bool true)], args := [d1, d2, d3] }
  | _ => none }
def sigsBackRow : OpenClaim := { program := "ytklidiambinhkaa", sum := "f4599f2f1c7fd3136830fc5b97ca9ffa1dc734fdc93fdd9fc98dd1e6bec00105", func := "balefire/balefirelaw13.SigsBack", spec := "sigsBack", inPlace := ["math/bits.Sub64", "math/bits.Add64"], unfollowed := true, recurses := true, named := ["math/bits.divideError", "math/bits.overflowError"], apart := false }
def SigsBackSaid : Prop := sigsBackRow.holds Try.pinned (OpenSpec.ofChange sigsBackSpec)

/-- ITS FALSE NEIGHBOUR: 'it returns false'. Refute it at one input. -/
def sigsBackWrong : ChangeSpec := { name := "sigsBack", fn := fun _ => fun
  | [d1, d2, d3] => { results := [.lit (.bool false)], args := [d1, d2, d3] }
  | _ => none }
def SigsBackWrongFalsely : Prop := sigsBackRow.holds Try.pinned (OpenSpec.ofChange sigsBackWrong)

/-- 'balefirelaw13.SigsMoved': WHATEVER THE INPUT: true; the input reads as it did. -/
def sigsMovedSpec : ChangeSpec := { name := "sigsMoved", fn := fun _ => fun
  | [d1, d2, d3] => { results := [.lit (.bool true)], args := [d1, d2, d3] }
  | _ => none }
def sigsMovedRow : OpenClaim := { program := "ytklidiambinhkaa", sum := "f4599f2f1c7fd3136830fc5b97ca9ffa1dc734fdc93fdd9fc98dd1e6bec00105", func := "balefire/balefirelaw13.SigsMoved", spec := "sigsMoved", inPlace := ["math/bits.Sub64", "math/bits.Add64"], unfollowed := true, recurses := true, named := ["math/bits.divideError", "math/bits.overflowError"], apart := false }
def SigsMovedSaid : Prop := sigsMovedRow.holds Try.pinned (OpenSpec.ofChange sigsMovedSpec)

/-- ITS FALSE NEIGHBOUR: 'it returns false'. Refute it at one input. -/
def sigsMovedWrong : ChangeSpec := { name := "sigsMoved", fn := fun _ => fun
  | [d1, d2, d3] => { results := [.lit (.bool false)], args := [d1, d2, d3] }
  | _ => none }
def SigsMovedWrongFalsely : Prop := sigsMovedRow.holds Try.pinned (OpenSpec.ofChange sigsMovedWrong)

/-- 'balefirelaw13.SigsTwo': WHATEVER THE INPUT: true; the input reads as it did. -/
def sigsTwoSpec : ChangeSpec := { name := "sigsTwo", fn := fun _ => fun
  | [d1, d2, d3] => { results := [.lit (.bool true)], args := [d1, d2, d3] }
  | _ => none }
def sigsTwoRow : OpenClaim := { program := "ytklidiambinhkaa", sum := "f4599f2f1c7fd3136830fc5b97ca9ffa1dc734fdc93fdd9fc98dd1e6bec00105", func := "balefire/balefirelaw13.SigsTwo", spec := "sigsTwo", inPlace := ["math/bits.Sub64", "math/bits.Add64"], unfollowed := true, recurses := true, named := ["math/bits.divideError", "math/bits.overflowError"], apart := false }
def SigsTwoSaid : Prop := sigsTwoRow.holds Try.pinned (OpenSpec.ofChange sigsTwoSpec)

/-- ITS FALSE NEIGHBOUR: 'it returns false'. Refute it at one input. -/
def sigsTwoWrong : ChangeSpec := { name := "sigsTwo", fn := fun _ => fun
  | [d1, d2, d3] => { results := [.lit (.bool false)], args := [d1, d2, d3] }
  | _ => none }
def SigsTwoWrongFalsely : Prop := sigsTwoRow.holds Try.pinned (OpenSpec.ofChange sigsTwoWrong)

/-- 'balefirelaw14.ProofsBounds': WHATEVER THE INPUT: true; the input reads as it did. -/
def proofsBoundsSpec : ChangeSpec := { name := "proofsBounds", fn := fun _ => fun
  | [d1, d2] => { results := [.lit (.bool true)], args := [d1, d2] }
  | _ => none }
def proofsBoundsRow : OpenClaim := { program := "ytklidiambinhkaa", sum := "f4599f2f1c7fd3136830fc5b97ca9ffa1dc734fdc93fdd9fc98dd1e6bec00105", func := "balefire/balefirelaw14.ProofsBounds", spec := "proofsBounds", inPlace := ["math/bits.Sub64", "math/bits.Add64"], unfollowed := true, recurses := true, named := ["math/bits.divideError", "math/bits.overflowError"], apart := false }
def ProofsBoundsSaid : Prop := proofsBoundsRow.holds Try.pinned (OpenSpec.ofChange proofsBoundsSpec)

/-- ITS FALSE NEIGHBOUR: 'it returns false'. Refute it at one input. -/
def proofsBoundsWrong : ChangeSpec := { name := "proofsBounds", fn := fun _ => fun
  | [d1, d2] => { results := [.lit (.bool false)], args := [d1, d2] }
  | _ => none }
def ProofsBoundsWrongFalsely : Prop := proofsBoundsRow.holds Try.pinned (OpenSpec.ofChange proofsBoundsWrong)

/-- 'balefirelaw14.ProofsBack': WHATEVER THE INPUT: true; the input reads as it did. -/
def proofsBackSpec : ChangeSpec := { name := "proofsBack", fn := fun _ => fun
  | [d1, d2, d3] => { results := [.lit (.bool true)], args := [d1, d2, d3] }
  | _ => none }
def proofsBackRow : OpenClaim := { program := "ytklidiambinhkaa", sum := "f4599f2f1c7fd3136830fc5b97ca9ffa1dc734fdc93fdd9fc98dd1e6bec00105", func := "balefire/balefirelaw14.ProofsBack", spec := "proofsBack", inPlace := ["math/bits.Sub64", "math/bits.Add64"], unfollowed := true, recurses := true, named := ["math/bits.divideError", "math/bits.overflowError"], apart := false }
def ProofsBackSaid : Prop := proofsBackRow.holds Try.pinned (OpenSpec.ofChange proofsBackSpec)

/-- ITS FALSE NEIGHBOUR: 'it returns false'. Refute it at one input. -/
def proofsBackWrong : ChangeSpec := { name := "proofsBack", fn := fun _ => fun
  | [d1, d2, d3] => { results := [.lit (.bool false)], args := [d1, d2, d3] }
  | _ => none }
def ProofsBackWrongFalsely : Prop := proofsBackRow.holds Try.pinned (OpenSpec.ofChange proofsBackWrong)

/-- 'balefirelaw14.ProofsSame': WHATEVER THE INPUT: true; the input reads as it did. -/
def proofsSameSpec : ChangeSpec := { name := "proofsSame", fn := fun _ => fun
  | [d1, d2, d3] => { results := [.lit (.bool true)], args := [d1, d2, d3] }
  | _ => none }
def proofsSameRow : OpenClaim := { program := "ytklidiambinhkaa", sum := "f4599f2f1c7fd3136830fc5b97ca9ffa1dc734fdc93fdd9fc98dd1e6bec00105", func := "balefire/balefirelaw14.ProofsSame", spec := "proofsSame", inPlace := ["math/bits.Sub64", "math/bits.Add64"], unfollowed := true, recurses := true, named := ["math/bits.divideError", "math/bits.overflowError"], apart := false }
def ProofsSameSaid : Prop := proofsSameRow.holds Try.pinned (OpenSpec.ofChange proofsSameSpec)

/-- ITS FALSE NEIGHBOUR: 'it returns false'. Refute it at one input. -/
def proofsSameWrong : ChangeSpec := { name := "proofsSame", fn := fun _ => fun
  | [d1, d2, d3] => { results := [.lit (.bool false)], args := [d1, d2, d3] }
  | _ => none }
def ProofsSameWrongFalsely : Prop := proofsSameRow.holds Try.pinned (OpenSpec.ofChange proofsSameWrong)

/-- 'balefirelaw14.ProofsMoved': WHATEVER THE INPUT: true; the input reads as it did. -/
def proofsMovedSpec : ChangeSpec := { name := "proofsMoved", fn := fun _ => fun
  | [d1, d2, d3] => { results := [.lit (.bool true)], args := [d1, d2, d3] }
  | _ => none }
def proofsMovedRow : OpenClaim := { program := "ytklidiambinhkaa", sum := "f4599f2f1c7fd3136830fc5b97ca9ffa1dc734fdc93fdd9fc98dd1e6bec00105", func := "balefire/balefirelaw14.ProofsMoved", spec := "proofsMoved", inPlace := ["math/bits.Sub64", "math/bits.Add64"], unfollowed := true, recurses := true, named := ["math/bits.divideError", "math/bits.overflowError"], apart := false }
def ProofsMovedSaid : Prop := proofsMovedRow.holds Try.pinned (OpenSpec.ofChange proofsMovedSpec)

/-- ITS FALSE NEIGHBOUR: 'it returns false'. Refute it at one input. -/
def proofsMovedWrong : ChangeSpec := { name := "proofsMoved", fn := fun _ => fun
  | [d1, d2, d3] => { results := [.lit (.bool false)], args := [d1, d2, d3] }
  | _ => none }
def ProofsMovedWrongFalsely : Prop := proofsMovedRow.holds Try.pinned (OpenSpec.ofChange proofsMovedWrong)

/-- 'balefirelaw14.ProofsTold': WHATEVER THE INPUT: true; the input reads as it did. -/
def proofsToldSpec : ChangeSpec := { name := "proofsTold", fn := fun _ => fun
  | [d1, d2, d3] => { results := [.lit (.bool true)], args := [d1, d2, d3] }
  | _ => none }
def proofsToldRow : OpenClaim := { program := "ytklidiambinhkaa", sum := "f4599f2f1c7fd3136830fc5b97ca9ffa1dc734fdc93fdd9fc98dd1e6bec00105", func := "balefire/balefirelaw14.ProofsTold", spec := "proofsTold", inPlace := ["math/bits.Sub64", "math/bits.Add64"], unfollowed := true, recurses := true, named := ["math/bits.divideError", "math/bits.overflowError"], apart := false }
def ProofsToldSaid : Prop := proofsToldRow.holds Try.pinned (OpenSpec.ofChange proofsToldSpec)

/-- ITS FALSE NEIGHBOUR: 'it returns false'. Refute it at one input. -/
def proofsToldWrong : ChangeSpec := { name := "proofsTold", fn := fun _ => fun
  | [d1, d2, d3] => { results := [.lit (.bool false)], args := [d1, d2, d3] }
  | _ => none }
def ProofsToldWrongFalsely : Prop := proofsToldRow.holds Try.pinned (OpenSpec.ofChange proofsToldWrong)

/- THE SECOND FORM. 'bulk': how many values and letters a reading holds, each counted each time it is reached (what is shared counts as often as it is met; a slice's spare places count too). A statement '..UptoSaid' is the law's where the arguments, and the package variables that the reading takes, are together of bulk at most 1048576: NARROWER than '..Said'. Prove '..Said' where nothing that the law and all that it calls make is longer than what came in: it says more and counts as full. Else prove '..UptoSaid'. A law counts once. -/
mutual
def uptoBulk {H : Type} : DataW H → Nat
  | .lit (.string bytes) => bytes.length + 1
  | .lit _ => 1
  | .nil => 1
  | .ptr d => uptoBulk d + 1
  | .slice elems spare => uptoBulkAll elems + uptoBulkAll spare + 1
  | .agg parts => uptoBulkAll parts + 1
  | .iface _ d => uptoBulk d + 1
  | .map entries => uptoBulkEntries entries + 1
  | .held _ => 1
def uptoBulkAll {H : Type} : List (DataW H) → Nat
  | [] => 0
  | d :: r => uptoBulk d + uptoBulkAll r
def uptoBulkEntries {H : Type} : List (Lit × DataW H) → Nat
  | [] => 0
  | x :: r => uptoBulkEntry x + uptoBulkEntries r
def uptoBulkEntry {H : Type} : Lit × DataW H → Nat
  | (.string bytes, d) => bytes.length + uptoBulk d + 1
  | (_, d) => uptoBulk d + 1
 end
def uptoSmall : (H : Type) → List (DataW H) → Bool := fun _ ds => decide (uptoBulkAll ds ≤ 1048576)
def OpenSpec.upto (s : _root_.Go.ChangeSpec) : _root_.Go.OpenSpec := { _root_.Go.OpenSpec.ofChange s with cond := some uptoSmall }

/-- 'balefirelaw13.SigsBounds', WHERE WHAT IT READS IS OF BULK AT MOST 1048576: true; the input reads as it did. -/
def sigsBoundsUptoRow : OpenClaim := { program := "ytklidiambinhkaa", sum := "f4599f2f1c7fd3136830fc5b97ca9ffa1dc734fdc93fdd9fc98dd1e6bec00105", func := "balefire/balefirelaw13.SigsBounds", spec := "sigsBounds", inPlace := ["math/bits.Sub64", "math/bits.Add64"], unfollowed := true, recurses := true, named := ["math/bits.divideError", "math/bits.overflowError"], apart := false, narrowed := true }
def SigsBoundsUptoSaid : Prop := sigsBoundsUptoRow.holds Try.pinned (OpenSpec.upto sigsBoundsSpec)

/-- 'balefirelaw13.SigsBack', WHERE WHAT IT READS IS OF BULK AT MOST 1048576: true; the input reads as it did. -/
def sigsBackUptoRow : OpenClaim := { program := "ytklidiambinhkaa", sum := "f4599f2f1c7fd3136830fc5b97ca9ffa1dc734fdc93fdd9fc98dd1e6bec00105", func := "balefire/balefirelaw13.SigsBack", spec := "sigsBack", inPlace := ["math/bits.Sub64", "math/bits.Add64"], unfollowed := true, recurses := true, named := ["math/bits.divideError", "math/bits.overflowError"], apart := false, narrowed := true }
def SigsBackUptoSaid : Prop := sigsBackUptoRow.holds Try.pinned (OpenSpec.upto sigsBackSpec)

/-- 'balefirelaw13.SigsMoved', WHERE WHAT IT READS IS OF BULK AT MOST 1048576: true; the input reads as it did. -/
def sigsMovedUptoRow : OpenClaim := { program := "ytklidiambinhkaa", sum := "f4599f2f1c7fd3136830fc5b97ca9ffa1dc734fdc93fdd9fc98dd1e6bec00105", func := "balefire/balefirelaw13.SigsMoved", spec := "sigsMoved", inPlace := ["math/bits.Sub64", "math/bits.Add64"], unfollowed := true, recurses := true, named := ["math/bits.divideError", "math/bits.overflowError"], apart := false, narrowed := true }
def SigsMovedUptoSaid : Prop := sigsMovedUptoRow.holds Try.pinned (OpenSpec.upto sigsMovedSpec)

/-- 'balefirelaw13.SigsTwo', WHERE WHAT IT READS IS OF BULK AT MOST 1048576: true; the input reads as it did. -/
def sigsTwoUptoRow : OpenClaim := { program := "ytklidiambinhkaa", sum := "f4599f2f1c7fd3136830fc5b97ca9ffa1dc734fdc93fdd9fc98dd1e6bec00105", func := "balefire/balefirelaw13.SigsTwo", spec := "sigsTwo", inPlace := ["math/bits.Sub64", "math/bits.Add64"], unfollowed := true, recurses := true, named := ["math/bits.divideError", "math/bits.overflowError"], apart := false, narrowed := true }
def SigsTwoUptoSaid : Prop := sigsTwoUptoRow.holds Try.pinned (OpenSpec.upto sigsTwoSpec)

/-- 'balefirelaw14.ProofsBounds', WHERE WHAT IT READS IS OF BULK AT MOST 1048576: true; the input reads as it did. -/
def proofsBoundsUptoRow : OpenClaim := { program := "ytklidiambinhkaa", sum := "f4599f2f1c7fd3136830fc5b97ca9ffa1dc734fdc93fdd9fc98dd1e6bec00105", func := "balefire/balefirelaw14.ProofsBounds", spec := "proofsBounds", inPlace := ["math/bits.Sub64", "math/bits.Add64"], unfollowed := true, recurses := true, named := ["math/bits.divideError", "math/bits.overflowError"], apart := false, narrowed := true }
def ProofsBoundsUptoSaid : Prop := proofsBoundsUptoRow.holds Try.pinned (OpenSpec.upto proofsBoundsSpec)

/-- 'balefirelaw14.ProofsBack', WHERE WHAT IT READS IS OF BULK AT MOST 1048576: true; the input reads as it did. -/
def proofsBackUptoRow : OpenClaim := { program := "ytklidiambinhkaa", sum := "f4599f2f1c7fd3136830fc5b97ca9ffa1dc734fdc93fdd9fc98dd1e6bec00105", func := "balefire/balefirelaw14.ProofsBack", spec := "proofsBack", inPlace := ["math/bits.Sub64", "math/bits.Add64"], unfollowed := true, recurses := true, named := ["math/bits.divideError", "math/bits.overflowError"], apart := false, narrowed := true }
def ProofsBackUptoSaid : Prop := proofsBackUptoRow.holds Try.pinned (OpenSpec.upto proofsBackSpec)

/-- 'balefirelaw14.ProofsSame', WHERE WHAT IT READS IS OF BULK AT MOST 1048576: true; the input reads as it did. -/
def proofsSameUptoRow : OpenClaim := { program := "ytklidiambinhkaa", sum := "f4599f2f1c7fd3136830fc5b97ca9ffa1dc734fdc93fdd9fc98dd1e6bec00105", func := "balefire/balefirelaw14.ProofsSame", spec := "proofsSame", inPlace := ["math/bits.Sub64", "math/bits.Add64"], unfollowed := true, recurses := true, named := ["math/bits.divideError", "math/bits.overflowError"], apart := false, narrowed := true }
def ProofsSameUptoSaid : Prop := proofsSameUptoRow.holds Try.pinned (OpenSpec.upto proofsSameSpec)

/-- 'balefirelaw14.ProofsMoved', WHERE WHAT IT READS IS OF BULK AT MOST 1048576: true; the input reads as it did. -/
def proofsMovedUptoRow : OpenClaim := { program := "ytklidiambinhkaa", sum := "f4599f2f1c7fd3136830fc5b97ca9ffa1dc734fdc93fdd9fc98dd1e6bec00105", func := "balefire/balefirelaw14.ProofsMoved", spec := "proofsMoved", inPlace := ["math/bits.Sub64", "math/bits.Add64"], unfollowed := true, recurses := true, named := ["math/bits.divideError", "math/bits.overflowError"], apart := false, narrowed := true }
def ProofsMovedUptoSaid : Prop := proofsMovedUptoRow.holds Try.pinned (OpenSpec.upto proofsMovedSpec)

/-- 'balefirelaw14.ProofsTold', WHERE WHAT IT READS IS OF BULK AT MOST 1048576: true; the input reads as it did. -/
def proofsToldUptoRow : OpenClaim := { program := "ytklidiambinhkaa", sum := "f4599f2f1c7fd3136830fc5b97ca9ffa1dc734fdc93fdd9fc98dd1e6bec00105", func := "balefire/balefirelaw14.ProofsTold", spec := "proofsTold", inPlace := ["math/bits.Sub64", "math/bits.Add64"], unfollowed := true, recurses := true, named := ["math/bits.divideError", "math/bits.overflowError"], apart := false, narrowed := true }
def ProofsToldUptoSaid : Prop := proofsToldUptoRow.holds Try.pinned (OpenSpec.upto proofsToldSpec)

end Rows
end Go.Proofs.Ytklidiambinhkaa
