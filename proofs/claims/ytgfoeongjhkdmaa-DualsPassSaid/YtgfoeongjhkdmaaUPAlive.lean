/- balefirelaw10.alive says yes. -/
import Derived.Test.YtgfoeongjhkdmaaUQ
set_option linter.unusedVariables false
set_option linter.unusedSimpArgs false
namespace Go.Proofs.Ytgfoeongjhkdmaa
open Go.RowKit
attribute [local irreducible] Calls Instr.build Instr.buildSlice
theorem NOwn.congr {cap n : Nat} {cur : List Value} {f f' : Nat → Nat} (h : NOwn cap cur n f) (he : ∀ j, j < n → f j = f' j) : NOwn cap cur n f' := ⟨h.le, h.big, h.len, by rw [h.is, xCd he]⟩
section
variable {P : Program} {ops : Array Oper} {B0 : Nat} {w0 w : World} {L : List (Nat × Obj)} {rest : List Oper} {o : Oper} {a : Act} {Q : Exit → Act → World → Prop}
theorem wpList_consts {ty el : TypeId} {n : Nat} {l : List Value} (parts : List (Nat × Value)) (hR : Rep B0 w0 L w) (hg : Region.wanted o (yielded ops a.tmps) = true) (hop : o.op = .buildSlice ty n (parts.map fun p => (p.1, Operand.const p.2)).toArray)
    (hrun : ∀ w, (Instr.buildSlice ty n parts.toArray).run P w = .ok (.slice (some ⟨w.heap.size, 0, none⟩) n n) (w.alloc (.cells l.toArray el)))
    (h : ∀ b w', Rep B0 w0 ((b, .cells l.toArray el) :: L) w' → wpList P ops Q rest (a.put o.dst (.slice (some ⟨b, 0, none⟩) n n)) w') : wpList P ops Q (o :: rest) a w :=
  wpList_wanted hg fun _ hK => by
    have e : (parts.map fun p => (p.1, Operand.const p.2)).toArray.map (fun p => (p.1, a.eval p.2)) = parts.toArray := by
      simp [Act.eval, Function.comp_def]
    unfold Oper.wp execOp
    simp only [hop, e, hrun, Sem.run_bind, Result.andThen_ok, Sem.run_pure]
    exact hK _ _ (h _ _ (hR.alloc _))
theorem xCt {ty el : TypeId} {n : Nat} {l : List Value} (parts : List (Nat × Value)) (hg : o.guard = none) (hop : o.op = .buildSlice ty n (parts.map fun p => (p.1, Operand.const p.2)).toArray)
    (hrun : ∀ w, (Instr.buildSlice ty n parts.toArray).run P w = .ok (.slice (some ⟨w.heap.size, 0, none⟩) n n) (w.alloc (.cells l.toArray el))) : IsNew P o a (.cells l.toArray el) (fun b => .slice (some ⟨b, 0, none⟩) n n) :=
  ⟨hg, fun w => by
    have e : (parts.map fun p => (p.1, Operand.const p.2)).toArray.map (fun p => (p.1, a.eval p.2)) = parts.toArray := by
      simp [Act.eval, Function.comp_def]
    unfold execOp
    simp only [hop, e, hrun, Sem.run_bind, Result.andThen_ok, Sem.run_pure]⟩
end
@[go_sem] theorem eq_zz (w : World) : (Op.equalIn 10000 24 (.agg #[.int .u64 0, .int .u64 0, .int .u64 0, .int .u64 0]) (.agg #[.int .u64 0, .int .u64 0, .int .u64 0, .int .u64 0])).run Try.prog w = .ok true w := by
  have h := equalIn_num 0 0 w
  rw [← nl_zero, eqN_self] at h
  exact h
end Go.Proofs.Ytgfoeongjhkdmaa
