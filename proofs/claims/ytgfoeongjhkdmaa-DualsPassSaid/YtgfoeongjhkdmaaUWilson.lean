/- The sentence of Wilson, for small numbers; the laws' own helpers of layer 7. -/
import Derived.Test.YtgfoeongjhkdmaaUO
import Derived.Test.YtgfoeongjhkdmaaUWide
set_option linter.unusedVariables false
set_option linter.unusedSimpArgs false
namespace Go.Proofs.Ytgfoeongjhkdmaa
open Go.RowKit
attribute [local irreducible] Calls
attribute [local irreducible] Instr.build
end Go.Proofs.Ytgfoeongjhkdmaa
