/- The contract of the deed of mods.Inv. -/
import Derived.Test.YtdagdfcbnhfdkaaMG
set_option linter.unusedVariables false
set_option linter.unusedSimpArgs false
namespace Go.Proofs.Ytdagdfcbnhfdkaa
open Go.RowKit
attribute [local irreducible] Calls
end Go.Proofs.Ytdagdfcbnhfdkaa
namespace Go.Proofs.Ytdagdfcbnhfdkaa
open Go.RowKit
end Go.Proofs.Ytdagdfcbnhfdkaa
