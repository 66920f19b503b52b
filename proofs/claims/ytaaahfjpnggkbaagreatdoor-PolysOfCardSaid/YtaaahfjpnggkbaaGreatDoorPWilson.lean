/- The sentence of Wilson, for small numbers; the laws' own helpers of layer 7. -/
import Derived.Test.YtaaahfjpnggkbaaGreatDoorPO
import Derived.Test.YtaaahfjpnggkbaaGreatDoorPWide
set_option linter.unusedVariables false
set_option linter.unusedSimpArgs false
namespace Go.Proofs.YtaaahfjpnggkbaaGreatDoor
open Go.RowKit
attribute [local irreducible] Calls
attribute [local irreducible] Instr.build
end Go.Proofs.YtaaahfjpnggkbaaGreatDoor
