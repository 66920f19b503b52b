/- The contract of the closure in primes.Check at great numbers, and of primes.Check. -/
import Derived.Test.YtaaahfjpnggkbaaGreatDoorPHolds
import Derived.Test.YtaaahfjpnggkbaaGreatDoorPP
import Derived.Test.YtaaahfjpnggkbaaGreatDoorPF
set_option linter.unusedVariables false
set_option linter.unusedSimpArgs false
namespace Go.Proofs.YtaaahfjpnggkbaaGreatDoor
open Go.RowKit
attribute [local irreducible] Calls Instr.build Instr.buildSlice
end Go.Proofs.YtaaahfjpnggkbaaGreatDoor
namespace Go.Proofs.YtaaahfjpnggkbaaGreatDoor
open Go.RowKit
attribute [local irreducible] Calls Instr.build Instr.buildSlice
end Go.Proofs.YtaaahfjpnggkbaaGreatDoor
namespace Go.Proofs.YtaaahfjpnggkbaaGreatDoor
open Go.RowKit
attribute [local irreducible] Calls Instr.build Instr.buildSlice
end Go.Proofs.YtaaahfjpnggkbaaGreatDoor
