/- The contracts of mods.power at the two closures of mods.Exp. -/
import Derived.Test.YtgfoeongjhkdmaaJJ
set_option linter.unusedVariables false
set_option linter.unusedSimpArgs false
namespace Go.Proofs.Ytgfoeongjhkdmaa
open Go.RowKit
attribute [local irreducible] Calls
end Go.Proofs.Ytgfoeongjhkdmaa
