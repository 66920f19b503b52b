/- The contracts of balefirelaw13.fine, of two and of three numbers. Printed by mkfine.py. -/
import Derived.Test.YthbcgcncoggagaaVGC
import Derived.Test.YthbcgcncoggagaaVGA
set_option linter.unusedVariables false
set_option linter.unusedSimpArgs false
namespace Go.Proofs.Ythbcgcncoggagaa
open Go.RowKit
attribute [local irreducible] Calls
end Go.Proofs.Ythbcgcncoggagaa
