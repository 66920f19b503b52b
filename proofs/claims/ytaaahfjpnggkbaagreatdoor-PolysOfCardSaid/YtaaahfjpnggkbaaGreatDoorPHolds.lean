/- The contract of the closure in primes.Check, and of primes.Check. -/
import Derived.Test.YtaaahfjpnggkbaaGreatDoorPP
import Derived.Test.YtaaahfjpnggkbaaGreatDoorPWilson
set_option linter.unusedVariables false
set_option linter.unusedSimpArgs false
namespace Go.Proofs.YtaaahfjpnggkbaaGreatDoor
open Go.RowKit
attribute [local irreducible] Calls Instr.build Instr.buildSlice
end Go.Proofs.YtaaahfjpnggkbaaGreatDoor
