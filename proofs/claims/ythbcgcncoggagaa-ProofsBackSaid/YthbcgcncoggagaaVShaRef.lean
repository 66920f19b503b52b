/- The contract of balefireref05.block. -/
import Derived.Test.YthbcgcncoggagaaVShaHash
set_option linter.unusedVariables false
set_option linter.unusedSimpArgs false
namespace Go.Proofs.Ythbcgcncoggagaa
open Go.RowKit
attribute [local irreducible] Calls
instance inShaRef1 : RowT Try.prog 141 8 := .mk' (by kernel_rfl) (by kernel_rfl)
instance inShaRef2 : ZeroT Try.prog 141 (s8L zeroS) := ⟨.agg (s8L zeroS).toArray, by kernel_rfl, rfl⟩
end Go.Proofs.Ythbcgcncoggagaa
