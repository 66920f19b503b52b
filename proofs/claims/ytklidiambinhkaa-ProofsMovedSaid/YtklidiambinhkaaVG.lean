/- The contracts of RecordsSize (the sum) and of great of balefirelaw06. -/
import Derived.Test.YtklidiambinhkaaVF
set_option linter.unusedVariables false
set_option linter.unusedSimpArgs false
namespace Go.Proofs.Ytklidiambinhkaa
open Go.RowKit
attribute [local irreducible] Calls
end Go.Proofs.Ytklidiambinhkaa
namespace Go.Proofs.Ytklidiambinhkaa
open Go.RowKit
attribute [local irreducible] Calls
end Go.Proofs.Ytklidiambinhkaa
