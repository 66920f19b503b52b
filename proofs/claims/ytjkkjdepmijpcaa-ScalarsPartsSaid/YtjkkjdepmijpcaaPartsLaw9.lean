/- The walk of balefirelaw09.ScalarsParts. -/
import Derived.Test.YtjkkjdepmijpcaaParts9
import Derived.Test.YtjkkjdepmijpcaaPartsNo9
set_option linter.unusedSimpArgs false
set_option linter.unusedVariables false
namespace Go.Proofs.Ytjkkjdepmijpcaa
open Go.RowKit

theorem parts_walk (p q g h : Nat) (hp : p < B) (hq : q < B) (hg : g < B) (hh : h < B) (a b c d : Nat) (ha : a < B) (hb : b < B) (hc : c < B) (hd : d < B) (w : World) : Calls Try.prog 6 #[grp p q g h, grp a b c d] w fun e w' =>
    e = .returned (.bool true) ∧ Below w.heap.size w w' := by
  by_cases ok : (invE b q = 0 ∧ invE d q = 0 ∧ a < q ∧ c < q)
  · exact parts_yes p q g h hp hq hg hh a b c d ha hb hc hd ok w
  · exact parts_no p q g h hp hq hg hh a b c d ha hb hc hd ok w
end Go.Proofs.Ytjkkjdepmijpcaa
