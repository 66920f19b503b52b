/- The laws' own helpers of layer 3: of, alive. -/
import Derived.Test.YthbcgcncoggagaaHJ
import Derived.Test.YthbcgcncoggagaaHI
import Derived.Test.YthbcgcncoggagaaHB
set_option linter.unusedVariables false
set_option linter.unusedSimpArgs false
namespace Go.Proofs.Ythbcgcncoggagaa
open Go.RowKit
end Go.Proofs.Ythbcgcncoggagaa
namespace Go.Proofs.Ythbcgcncoggagaa
open Go.RowKit
attribute [local irreducible] Calls
end Go.Proofs.Ythbcgcncoggagaa
namespace Go.Proofs.Ythbcgcncoggagaa
open Go.RowKit
section
variable {P : Program} {ops : Array Oper} {B0 : Nat} {w0 : World} {Kp : List (Nat × Obj)} {Q : Exit → Act → World → Prop}
abbrev ptrTo (b : Nat) : Value := .pointer (some ⟨b, 0, none⟩)
structure IsAlloc (P : Program) (o : Oper) (ob : Obj) : Prop where
  guard : o.guard = none
  run : ∀ (a : Act) (w : World), (execOp a.eval o).run P w = .ok (.value (ptrTo w.heap.size)) (w.alloc ob)
theorem Rep.swap {p q : Nat × Obj} {L : List (Nat × Obj)} : Rep B0 w0 (p :: q :: L) = Rep B0 w0 (q :: p :: L) := by
  have one : ∀ (p q : Nat × Obj) w, Rep B0 w0 (p :: q :: L) w → Rep B0 w0 (q :: p :: L) w := fun p q w h =>
    ⟨h.below, h.le, fun r hr => h.own r (by
      rcases List.mem_cons.1 hr with rfl | hr
      · exact .tail _ (.head _)
      · rcases List.mem_cons.1 hr with rfl | hr
        · exact .head _
        · exact .tail _ (.tail _ hr)), by
      have := h.uniq
      simp only [List.map_cons, List.nodup_cons, List.mem_cons, not_or] at this ⊢
      exact ⟨⟨fun e => this.1.1 e.symm, this.2.1⟩, this.1.2, this.2.2⟩⟩
  funext w
  exact propext ⟨one p q w, one q p w⟩
end
end Go.Proofs.Ythbcgcncoggagaa
