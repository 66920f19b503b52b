/- The contract of balefireref05.block. -/
import Derived.Test.YtklidiambinhkaaVShaHash
set_option linter.unusedVariables false
set_option linter.unusedSimpArgs false
namespace Go.Proofs.Ytklidiambinhkaa
open Go.RowKit
attribute [local irreducible] Calls
instance inShaRef1 : RowT Try.prog 126 8 := .mk' (by kernel_rfl) (by kernel_rfl)
instance inShaRef2 : ZeroT Try.prog 126 (s8L zeroS) := ⟨.agg (s8L zeroS).toArray, by kernel_rfl, rfl⟩
end Go.Proofs.Ytklidiambinhkaa
