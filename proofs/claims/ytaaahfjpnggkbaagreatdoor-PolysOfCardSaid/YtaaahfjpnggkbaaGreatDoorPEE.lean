/- The contracts of mods.power at the two closures of mods.Exp. -/
import Derived.Test.YtaaahfjpnggkbaaGreatDoorPJ
set_option linter.unusedVariables false
set_option linter.unusedSimpArgs false
namespace Go.Proofs.YtaaahfjpnggkbaaGreatDoor
open Go.RowKit
attribute [local irreducible] Calls
end Go.Proofs.YtaaahfjpnggkbaaGreatDoor
namespace Go.Proofs.YtaaahfjpnggkbaaGreatDoor
open Go.RowKit
attribute [local irreducible] Calls
section
variable {B0 : Nat} {w0 w : World} {L : List (Nat × Obj)}
def okE (a m : Nat) : Prop := 1 < m ∧ a < m
instance (a m : Nat) : Decidable (okE a m) := by unfold okE; infer_instance
end
end Go.Proofs.YtaaahfjpnggkbaaGreatDoor
