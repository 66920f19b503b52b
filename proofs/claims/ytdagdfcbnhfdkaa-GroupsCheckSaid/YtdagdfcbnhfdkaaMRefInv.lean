/- The contract of balefireref04.Inv. -/
import Derived.Test.YtdagdfcbnhfdkaaMRefExp
import Derived.Test.YtdagdfcbnhfdkaaMRefDiv
import Derived.Test.YtdagdfcbnhfdkaaMM
set_option linter.unusedVariables false
set_option linter.unusedSimpArgs false
namespace Go.Proofs.Ytdagdfcbnhfdkaa
open Go.RowKit
attribute [local irreducible] Calls
theorem rd_lit {a b q r : Nat} {e : Int} (ha : a < B) (hb : b < B) (hq : quo0 a b = q) (hr : rem0 a b = r) (he : (if b = 0 then (1 : Int) else 0) = e) (w : World) : Calls Try.prog 60 #[num a, num b] w fun e' w' =>
    e' = .returned (.tuple #[num q, num r, .int .i64 e]) ∧ Below w.heap.size w w' := by
  have := refDiv_any a b ha hb w
  rwa [hq, hr, he] at this
end Go.Proofs.Ytdagdfcbnhfdkaa
