/- Regions that draw their order and make variables, however many. -/
import Derived.Test.YthbcgcncoggagaaVM
import Derived.Test.YthbcgcncoggagaaVModsDeeds
set_option linter.unusedVariables false
set_option linter.unusedSimpArgs false
namespace Go.Proofs.Ythbcgcncoggagaa
open Go.RowKit
section
variable {P : Program} {ops : Array Oper} {B0 : Nat} {w0 : World} {Kp : List (Nat × Obj)} {Q : Exit → Act → World → Prop}
def RepEq (B0 : Nat) (w0 : World) (L L2 : List (Nat × Obj)) : Prop := ∀ M, Rep B0 w0 (M ++ L) = Rep B0 w0 (M ++ L2)
theorem RepEq.refl (L : List (Nat × Obj)) : RepEq B0 w0 L L := fun _ => rfl
theorem RepEq.trans {L L2 L3 : List (Nat × Obj)} (h : RepEq B0 w0 L L2) (k : RepEq B0 w0 L2 L3) : RepEq B0 w0 L L3 := fun M => (h M).trans (k M)
theorem RepEq.cons {L L2 : List (Nat × Obj)} (p : Nat × Obj) (h : RepEq B0 w0 L L2) : RepEq B0 w0 (p :: L) (p :: L2) := fun M => by
  have := h (M ++ [p])
  simpa using this
structure Al where
  i : Nat
  d : Tmp
  o : Oper
  z : Obj
def AllAl (P : Program) (ops : Array Oper) : List Al → Prop
  | [] => True
  | x :: R => (ops[x.i]? = some x.o ∧ x.o.dst = some x.d ∧ IsAlloc P x.o x.z) ∧ AllAl P ops R
theorem AllAl.nil : AllAl P ops [] := trivial
theorem AllAl.cons {i : Nat} {d : Tmp} {o : Oper} {z : Obj} {R : List Al} (h1 : ops[i]? = some o) (h2 : o.dst = some d) (h3 : IsAlloc P o z) (h : AllAl P ops R) : AllAl P ops (⟨i, d, o, z⟩ :: R) := ⟨⟨h1, h2, h3⟩, h⟩
theorem AllAl.of {R : List Al} (h : ∀ x ∈ R, ops[x.i]? = some x.o ∧ x.o.dst = some x.d ∧ IsAlloc P x.o x.z) : AllAl P ops R := by
  induction R with
  | nil => exact trivial
  | cons x R ih => exact ⟨h x (.head _), ih fun y hy => h y (.tail _ hy)⟩
end
end Go.Proofs.Ythbcgcncoggagaa
namespace Go.Proofs.Ythbcgcncoggagaa
open Go.RowKit
attribute [local irreducible] Calls
end Go.Proofs.Ythbcgcncoggagaa
namespace Go.Proofs.Ythbcgcncoggagaa
open Go.RowKit
end Go.Proofs.Ythbcgcncoggagaa
