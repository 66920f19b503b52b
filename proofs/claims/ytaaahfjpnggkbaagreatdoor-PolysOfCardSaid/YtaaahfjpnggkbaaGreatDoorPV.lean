/- append of a whole slice of long numbers to nil. -/
import Derived.Deep.Upon
import Derived.Test.YtaaahfjpnggkbaaGreatDoorPQ
set_option linter.unusedVariables false
set_option linter.unusedSimpArgs false
namespace Go.Proofs.YtaaahfjpnggkbaaGreatDoor
open Go.RowKit
end Go.Proofs.YtaaahfjpnggkbaaGreatDoor
namespace Go.Proofs.YtaaahfjpnggkbaaGreatDoor
open Go.RowKit
section
variable {q n : Nat} {P Q : Nat → Nat} {x c : Nat}
end
end Go.Proofs.YtaaahfjpnggkbaaGreatDoor
