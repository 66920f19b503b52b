/- The contract of scalars.Of. -/
import Derived.Test.YtgfoeongjhkdmaaGreatRT
set_option linter.unusedVariables false
set_option linter.unusedSimpArgs false
namespace Go.Proofs.YtgfoeongjhkdmaaGreat
open Go.RowKit
attribute [local irreducible] Calls
end Go.Proofs.YtgfoeongjhkdmaaGreat
