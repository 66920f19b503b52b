/- The contracts of groups.may, Mul, Inv, Exp, In. -/
import Derived.Test.YtaaahfjpnggkbaaGreatDoorPN
import Derived.Test.YtaaahfjpnggkbaaGreatDoorPO
set_option linter.unusedVariables false
set_option linter.unusedSimpArgs false
namespace Go.Proofs.YtaaahfjpnggkbaaGreatDoor
open Go.RowKit
attribute [local irreducible] Calls
def mayG (p a : Nat) : Prop := 1 < p ∧ a ≠ 0 ∧ a < p
instance (p a : Nat) : Decidable (mayG p a) := by unfold mayG; infer_instance
theorem z_num : num 0 = Value.agg #[.int .u64 0, .int .u64 0, .int .u64 0, .int .u64 0] := xBs.symm
end Go.Proofs.YtaaahfjpnggkbaaGreatDoor
namespace Go.Proofs.YtaaahfjpnggkbaaGreatDoor
open Go.RowKit
attribute [local irreducible] Calls
end Go.Proofs.YtaaahfjpnggkbaaGreatDoor
