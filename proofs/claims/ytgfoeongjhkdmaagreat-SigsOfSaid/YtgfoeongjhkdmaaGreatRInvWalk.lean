/- The walk of the deed of mods.Inv. -/
import Derived.Test.YtgfoeongjhkdmaaGreatRO
set_option linter.unusedVariables false
set_option linter.unusedSimpArgs false
namespace Go.Proofs.YtgfoeongjhkdmaaGreat
open Go.RowKit
attribute [local irreducible] Calls
end Go.Proofs.YtgfoeongjhkdmaaGreat
