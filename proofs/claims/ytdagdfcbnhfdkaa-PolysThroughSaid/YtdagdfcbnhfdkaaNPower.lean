/- The contracts of mods.power at the two closures of mods.Exp. -/
import Derived.Test.YtdagdfcbnhfdkaaNJ
set_option linter.unusedVariables false
set_option linter.unusedSimpArgs false
namespace Go.Proofs.Ytdagdfcbnhfdkaa
open Go.RowKit
attribute [local irreducible] Calls
end Go.Proofs.Ytdagdfcbnhfdkaa
