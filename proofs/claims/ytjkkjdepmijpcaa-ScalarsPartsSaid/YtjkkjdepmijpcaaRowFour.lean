/- Four long numbers as a row; operations that their guard leaves out. -/
import Derived.Test.YtjkkjdepmijpcaaScal9
set_option linter.unusedSimpArgs false
set_option linter.unusedVariables false
namespace Go.Proofs.Ytjkkjdepmijpcaa
open Go.RowKit
instance rowFour : RowT Try.prog 38 16 := .mk' (by kernel_rfl) (by kernel_rfl)
section
variable {P : Program} {ops : Array Oper} {rest : List Oper} {o : Oper} {a : Act} {w : World} {Q : Exit → Act → World → Prop}
theorem wpList_skip (hw : Region.wanted o (yielded ops a.tmps) = false) (h : wpList P ops Q rest (a.put o.dst undef) w) : wpList P ops Q (o :: rest) a w :=
  wpList_step fun K hK => by simp only [hw, Bool.false_eq_true, if_false]; exact hK _ _ h
end
end Go.Proofs.Ytjkkjdepmijpcaa
