/- The contract of the closure in primes.Check at great numbers, and of primes.Check. -/
import Derived.Test.YtdagdfcbnhfdkaaNHolds
import Derived.Test.YtdagdfcbnhfdkaaNP
import Derived.Test.YtdagdfcbnhfdkaaNF
set_option linter.unusedVariables false
set_option linter.unusedSimpArgs false
namespace Go.Proofs.Ytdagdfcbnhfdkaa
open Go.RowKit
attribute [local irreducible] Calls Instr.build Instr.buildSlice
end Go.Proofs.Ytdagdfcbnhfdkaa
namespace Go.Proofs.Ytdagdfcbnhfdkaa
open Go.RowKit
attribute [local irreducible] Calls Instr.build Instr.buildSlice
end Go.Proofs.Ytdagdfcbnhfdkaa
namespace Go.Proofs.Ytdagdfcbnhfdkaa
open Go.RowKit
attribute [local irreducible] Calls Instr.build Instr.buildSlice
end Go.Proofs.Ytdagdfcbnhfdkaa
