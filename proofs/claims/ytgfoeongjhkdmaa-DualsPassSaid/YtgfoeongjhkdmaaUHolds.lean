/- The contract of the closure in primes.Check, and of primes.Check. -/
import Derived.Test.YtgfoeongjhkdmaaUP
import Derived.Test.YtgfoeongjhkdmaaUWilson
set_option linter.unusedVariables false
set_option linter.unusedSimpArgs false
namespace Go.Proofs.Ytgfoeongjhkdmaa
open Go.RowKit
attribute [local irreducible] Calls Instr.build Instr.buildSlice
end Go.Proofs.Ytgfoeongjhkdmaa
