/- The contract of the deed of mods.Inv. -/
import Derived.Test.YtgfoeongjhkdmaaGreatRN
set_option linter.unusedVariables false
set_option linter.unusedSimpArgs false
namespace Go.Proofs.YtgfoeongjhkdmaaGreat
open Go.RowKit
attribute [local irreducible] Calls
end Go.Proofs.YtgfoeongjhkdmaaGreat
namespace Go.Proofs.YtgfoeongjhkdmaaGreat
open Go.RowKit
end Go.Proofs.YtgfoeongjhkdmaaGreat
