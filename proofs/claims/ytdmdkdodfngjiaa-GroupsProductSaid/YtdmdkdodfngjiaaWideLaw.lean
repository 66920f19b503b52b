/- The walk of balefirelaw03.DividesWide. -/
import Derived.Test.YtdmdkdodfngjiaaBackLaw
import Derived.Test.YtdmdkdodfngjiaaAlloc
set_option linter.unusedSimpArgs false
set_option linter.unusedVariables false
namespace Go.Proofs.Ytdmdkdodfngjiaa
open Go.RowKit

/-- Three long numbers, side by side. -/
noncomputable def nl3 (a b c : Nat) : List Value := [.int .u64 (wd a 0), .int .u64 (wd a 1), .int .u64 (wd a 2), .int .u64 (wd a 3), .int .u64 (wd b 0), .int .u64 (wd b 1), .int .u64 (wd b 2), .int .u64 (wd b 3), .int .u64 (wd c 0), .int .u64 (wd c 1), .int .u64 (wd c 2), .int .u64 (wd c 3)]
noncomputable abbrev num3 (a b c : Nat) : Value := .agg (nl3 a b c).toArray

attribute [local irreducible] Calls

end Go.Proofs.Ytdmdkdodfngjiaa
