import Derived.Test.YtaaahfjpnggkbaaGreatDoorHRD
import Derived.Test.YtaaahfjpnggkbaaGreatDoorHK2
set_option linter.unusedSimpArgs false
set_option linter.unusedVariables false
set_option maxRecDepth 100000
set_option maxHeartbeats 20000000
namespace Go.Proofs.YtaaahfjpnggkbaaGreatDoor
open Go.RowKit
attribute [local irreducible] Calls Instr.build Instr.buildSlice Instr.makeSlice
end Go.Proofs.YtaaahfjpnggkbaaGreatDoor
