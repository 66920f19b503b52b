/- The sentence of Wilson, for small numbers; the laws' own helpers of layer 7. -/
import Derived.Test.YtdagdfcbnhfdkaaNO
import Derived.Test.YtdagdfcbnhfdkaaNWide
set_option linter.unusedVariables false
set_option linter.unusedSimpArgs false
namespace Go.Proofs.Ytdagdfcbnhfdkaa
open Go.RowKit
attribute [local irreducible] Calls
attribute [local irreducible] Instr.build
end Go.Proofs.Ytdagdfcbnhfdkaa
