/- The contracts of groups.may, Mul, Inv, Exp, In. -/
import Derived.Test.YtgfoeongjhkdmaaJN
import Derived.Test.YtgfoeongjhkdmaaJO
set_option linter.unusedVariables false
set_option linter.unusedSimpArgs false
namespace Go.Proofs.Ytgfoeongjhkdmaa
open Go.RowKit
attribute [local irreducible] Calls
def mayG (p a : Nat) : Prop := 1 < p ∧ a ≠ 0 ∧ a < p
instance (p a : Nat) : Decidable (mayG p a) := by unfold mayG; infer_instance
theorem z_num : num 0 = Value.agg #[.int .u64 0, .int .u64 0, .int .u64 0, .int .u64 0] := xCx.symm
end Go.Proofs.Ytgfoeongjhkdmaa
namespace Go.Proofs.Ytgfoeongjhkdmaa
open Go.RowKit
attribute [local irreducible] Calls
end Go.Proofs.Ytgfoeongjhkdmaa
