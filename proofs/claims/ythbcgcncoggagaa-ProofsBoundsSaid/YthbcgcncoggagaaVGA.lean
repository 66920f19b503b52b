/- The contracts of sigs.exponents, sigs.signs and of its closure. -/
import Derived.Test.YthbcgcncoggagaaVPutW
import Derived.Test.YthbcgcncoggagaaVK
import Derived.Test.YthbcgcncoggagaaVRegF
import Derived.Test.YthbcgcncoggagaaVW
set_option linter.unusedVariables false
set_option linter.unusedSimpArgs false
namespace Go.Proofs.Ythbcgcncoggagaa
open Go.RowKit
attribute [local irreducible] Calls Instr.build Instr.buildSlice
theorem hnum_lt {q : Nat} (h : q ≠ 0) (s : List Nat) (xss : List (List Nat)) : hnumN s xss q < q := by unfold hnumN; rw [widN_def, if_neg h]; exact Nat.mod_lt _ (by omega)
section
variable {B0 : Nat} {w0 w : World} {L : List (Nat × Obj)}
def okX (q x y : Nat) : Prop := 1 < q ∧ x < q ∧ y < q
instance decOkX (q x y : Nat) : Decidable (okX q x y) := by unfold okX; exact inferInstance
end
end Go.Proofs.Ythbcgcncoggagaa
namespace Go.Proofs.Ythbcgcncoggagaa
open Go.RowKit
attribute [local irreducible] Calls Instr.build Instr.buildSlice
section
variable {B0 : Nat} {w0 w : World} {L : List (Nat × Obj)}
theorem yields_move {P : Program} {ops : Array Oper} {o : Oper} {a : Act} (hg : o.guard = none) {x : Operand} (hop : o.op = .assign x) {v : Value} (hx' : ev a x = some v) : xBu P ops o v a (Rep B0 w0 L) (Rep B0 w0 L) :=
  .inl ⟨wanted_of hg _, fun w hR => by
    have hx := xBo hx'
    unfold execOp
    subst hx
    rw [hop]
    exact ⟨rfl, hR⟩⟩
theorem plN_length (n : Nat) : (plN n).length = 32 := xCv _
end
end Go.Proofs.Ythbcgcncoggagaa
namespace Go.Proofs.Ythbcgcncoggagaa
open Go.RowKit
theorem nl2_zero : [Value.int .u64 0, .int .u64 0, .int .u64 0, .int .u64 0, .int .u64 0, .int .u64 0, .int .u64 0, .int .u64 0] = nl2 0 0 := by unfold nl2; simp [wd_def]
theorem wpList_twoG {P : Program} {ops : Array Oper} {rest : List Oper} {o : Oper} {a : Act} {w w0 : World} {Q : Exit → Act → World → Prop} {B0 : Nat} {L : List (Nat × Obj)} (hR : Rep B0 w0 L w) (hw : Region.wanted o (yielded ops a.tmps) = true) {ty el : TypeId} {x y : Operand} (hop : o.op = .buildSlice ty 2 #[(0, x), (1, y)]) {v u : Value} {l : List Value} (hx : ev a x = some v) (hy : ev a y = some u)
    (hrun : ∀ w, (Instr.buildSlice ty 2 #[(0, v), (1, u)]).run P w = .ok (.slice (some ⟨w.heap.size, 0, none⟩) 2 2) (w.alloc (.cells l.toArray el)))
    (h : ∀ b w', Rep B0 w0 ((b, .cells l.toArray el) :: L) w' → wpList P ops Q rest (a.put o.dst (.slice (some ⟨b, 0, none⟩) 2 2)) w') : wpList P ops Q (o :: rest) a w :=
  wpList_wanted hw fun _ hK => by
    have hx := xBo hx
    have hy := xBo hy
    unfold Oper.wp execOp
    simp only [hop, List.map_toArray, List.map_cons, List.map_nil, hx, hy, hrun, Sem.run_bind, Result.andThen_ok, Sem.run_pure]
    exact hK _ _ (h _ _ (hR.alloc _))
attribute [local irreducible] Calls Instr.build Instr.buildSlice
end Go.Proofs.Ythbcgcncoggagaa
namespace Go.Proofs.Ythbcgcncoggagaa
open Go.RowKit
attribute [local irreducible] Calls Instr.build Instr.buildSlice
end Go.Proofs.Ythbcgcncoggagaa
