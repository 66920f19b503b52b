/- The contracts of the deeds of mods: sums, differences, products. -/
import Derived.Test.YthbcgcncoggagaaHM
import Derived.Test.YthbcgcncoggagaaHA
set_option linter.unusedVariables false
set_option linter.unusedSimpArgs false
namespace Go.Proofs.Ythbcgcncoggagaa
open Go.RowKit
attribute [local irreducible] Calls
end Go.Proofs.Ythbcgcncoggagaa
namespace Go.Proofs.Ythbcgcncoggagaa
open Go.RowKit
attribute [local irreducible] Calls
end Go.Proofs.Ythbcgcncoggagaa
namespace Go.Proofs.Ythbcgcncoggagaa
open Go.RowKit
attribute [local irreducible] Calls
instance : CellT Try.prog 121 := .mk' (by kernel_rfl) (by kernel_rfl)
def okM (a b m : Nat) : Prop := 1 < m ∧ a < m ∧ b < m
instance (a b m : Nat) : Decidable (okM a b m) := by unfold okM; infer_instance
end Go.Proofs.Ythbcgcncoggagaa
namespace Go.Proofs.Ythbcgcncoggagaa
open Go.RowKit
section
variable {P : Program} {ops : Array Oper} {B0 : Nat} {w0 : World} {Kp : List (Nat × Obj)} {Q : Exit → Act → World → Prop}
theorem Rep.perm {L L2 : List (Nat × Obj)} (h : L.Perm L2) : Rep B0 w0 L = Rep B0 w0 L2 := by
  have one : ∀ {L L2 : List (Nat × Obj)} w, L.Perm L2 → Rep B0 w0 L w → Rep B0 w0 L2 w := fun w h r =>
    ⟨r.below, r.le, fun p hp => r.own p (h.mem_iff.2 hp), (h.map (·.1)).nodup_iff.1 r.uniq⟩
  funext w
  exact propext ⟨one w h, one w h.symm⟩
def RepEq (B0 : Nat) (w0 : World) (L L2 : List (Nat × Obj)) : Prop := ∀ M, Rep B0 w0 (M ++ L) = Rep B0 w0 (M ++ L2)
theorem RepEq.refl (L : List (Nat × Obj)) : RepEq B0 w0 L L := fun _ => rfl
theorem RepEq.trans {L L2 L3 : List (Nat × Obj)} (h : RepEq B0 w0 L L2) (k : RepEq B0 w0 L2 L3) : RepEq B0 w0 L L3 := fun M => (h M).trans (k M)
theorem RepEq.cons {L L2 : List (Nat × Obj)} (p : Nat × Obj) (h : RepEq B0 w0 L L2) : RepEq B0 w0 (p :: L) (p :: L2) := fun M => by
  have := h (M ++ [p])
  simpa using this
theorem RepEq.swap (p q : Nat × Obj) (L : List (Nat × Obj)) : RepEq B0 w0 (p :: q :: L) (q :: p :: L) := fun M => Rep.perm (List.Perm.append_left M (List.Perm.swap q p L))
structure Al where
  i : Nat
  d : Tmp
  o : Oper
  z : Obj
def AllAl (P : Program) (ops : Array Oper) : List Al → Prop
  | [] => True
  | x :: R => (ops[x.i]? = some x.o ∧ x.o.dst = some x.d ∧ IsAlloc P x.o x.z) ∧ AllAl P ops R
theorem AllAl.nil : AllAl P ops [] := trivial
theorem AllAl.cons {i : Nat} {d : Tmp} {o : Oper} {z : Obj} {R : List Al} (h1 : ops[i]? = some o) (h2 : o.dst = some d) (h3 : IsAlloc P o z) (h : AllAl P ops R) : AllAl P ops (⟨i, d, o, z⟩ :: R) := ⟨⟨h1, h2, h3⟩, h⟩
theorem AllAl.of {R : List Al} (h : ∀ x ∈ R, ops[x.i]? = some x.o ∧ x.o.dst = some x.d ∧ IsAlloc P x.o x.z) : AllAl P ops R := by
  induction R with
  | nil => exact trivial
  | cons x R ih => exact ⟨h x (.head _), ih fun y hy => h y (.tail _ hy)⟩
end
end Go.Proofs.Ythbcgcncoggagaa
namespace Go.Proofs.Ythbcgcncoggagaa
open Go.RowKit
attribute [local irreducible] Calls
end Go.Proofs.Ythbcgcncoggagaa
namespace Go.Proofs.Ythbcgcncoggagaa
open Go.RowKit
end Go.Proofs.Ythbcgcncoggagaa
namespace Go.Proofs.Ythbcgcncoggagaa
open Go.RowKit
attribute [local irreducible] Calls
end Go.Proofs.Ythbcgcncoggagaa
namespace Go.Proofs.Ythbcgcncoggagaa
open Go.RowKit
end Go.Proofs.Ythbcgcncoggagaa
namespace Go.Proofs.Ythbcgcncoggagaa
open Go.RowKit
attribute [local irreducible] Calls
end Go.Proofs.Ythbcgcncoggagaa
namespace Go.Proofs.Ythbcgcncoggagaa
open Go.RowKit
attribute [local irreducible] Calls
end Go.Proofs.Ythbcgcncoggagaa
namespace Go.Proofs.Ythbcgcncoggagaa
open Go.RowKit
attribute [local irreducible] Calls
section
variable {B0 : Nat} {w0 w : World} {L : List (Nat × Obj)}
def okE (a m : Nat) : Prop := 1 < m ∧ a < m
instance (a m : Nat) : Decidable (okE a m) := by unfold okE; infer_instance
end
end Go.Proofs.Ythbcgcncoggagaa
namespace Go.Proofs.Ythbcgcncoggagaa
open Go.RowKit
attribute [local irreducible] Calls
end Go.Proofs.Ythbcgcncoggagaa
namespace Go.Proofs.Ythbcgcncoggagaa
open Go.RowKit
attribute [local irreducible] Calls
end Go.Proofs.Ythbcgcncoggagaa
namespace Go.Proofs.Ythbcgcncoggagaa
open Go.RowKit
attribute [local irreducible] Calls
end Go.Proofs.Ythbcgcncoggagaa
namespace Go.Proofs.Ythbcgcncoggagaa
open Go.RowKit
section
variable {P : Program} {ops : Array Oper} {ts : List Nat} {r acc : List Oper} {o : Oper} {a : Act} {K : List Oper → Act → Prop} {I : (World → Prop) → Prop} {C : World → Prop}
theorem hd_unOp {m : Nat} (hm : m ≠ 2) (hw : Region.wanted o (yielded ops a.tmps) = true) {op : UnOp} {t : TypeId} {x : Operand} (hop : o.op = .unOp op t x) {vx v : Value} (hx' : ev a x = some vx) (hrun : ∀ w, (Op.unary op vx).run P w = .ok v w)
    {a' : Act} (ha : a.put o.dst v = a') (h : xCd P ops I C K ts r acc a') : xCd P ops I C K (m :: ts) (o :: r) acc a :=
  xDg hm hw (fun w => by have hx := xBu hx'; unfold execOp; simp only [hop, hx]; exact xDe _ (hrun w)) ha h
end
end Go.Proofs.Ythbcgcncoggagaa
