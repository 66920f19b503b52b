/- The contracts of groups.may, Mul, Inv, Exp, In. -/
import Derived.Test.YtdagdfcbnhfdkaaNN
import Derived.Test.YtdagdfcbnhfdkaaNO
set_option linter.unusedVariables false
set_option linter.unusedSimpArgs false
namespace Go.Proofs.Ytdagdfcbnhfdkaa
open Go.RowKit
attribute [local irreducible] Calls
def mayG (p a : Nat) : Prop := 1 < p ∧ a ≠ 0 ∧ a < p
instance (p a : Nat) : Decidable (mayG p a) := by unfold mayG; infer_instance
theorem z_num : num 0 = Value.agg #[.int .u64 0, .int .u64 0, .int .u64 0, .int .u64 0] := num_zero.symm
end Go.Proofs.Ytdagdfcbnhfdkaa
namespace Go.Proofs.Ytdagdfcbnhfdkaa
open Go.RowKit
attribute [local irreducible] Calls
@[go_sem] theorem index_four0 (x0 x1 x2 x3 : Int) (w : World) : (Instr.index 84 (.agg #[.int .i64 x0, .int .i64 x1, .int .i64 x2, .int .i64 x3]) (.int .i64 0)).run Try.prog w = .ok (.int .i64 x0) w := by kernel_rfl
@[go_sem] theorem index_four1 (x0 x1 x2 x3 : Int) (w : World) : (Instr.index 84 (.agg #[.int .i64 x0, .int .i64 x1, .int .i64 x2, .int .i64 x3]) (.int .i64 1)).run Try.prog w = .ok (.int .i64 x1) w := by kernel_rfl
@[go_sem] theorem index_four2 (x0 x1 x2 x3 : Int) (w : World) : (Instr.index 84 (.agg #[.int .i64 x0, .int .i64 x1, .int .i64 x2, .int .i64 x3]) (.int .i64 2)).run Try.prog w = .ok (.int .i64 x2) w := by kernel_rfl
@[go_sem] theorem index_four3 (x0 x1 x2 x3 : Int) (w : World) : (Instr.index 84 (.agg #[.int .i64 x0, .int .i64 x1, .int .i64 x2, .int .i64 x3]) (.int .i64 3)).run Try.prog w = .ok (.int .i64 x3) w := by kernel_rfl
end Go.Proofs.Ytdagdfcbnhfdkaa
