/- Weights of what lies in a list. -/
import Derived.SizedLaws
import Derived.Test.YtgfoeongjhkdmaaGreatRB
set_option linter.unusedVariables false
set_option linter.unusedSimpArgs false
namespace Go.Proofs.YtgfoeongjhkdmaaGreat
open Go.RowKit Go.ChangeShapes
end Go.Proofs.YtgfoeongjhkdmaaGreat
