/- The laws' own helper of layer 13: alive. -/
import Derived.Test.YthbcgcncoggagaaVGB
import Derived.Test.YthbcgcncoggagaaVFine13
set_option linter.unusedVariables false
set_option linter.unusedSimpArgs false
namespace Go.Proofs.Ythbcgcncoggagaa
open Go.RowKit
theorem num_few {n : Nat} (h : n < 18446744073709551616) : (Value.agg #[.int .u64 (n : Int), .int .u64 0, .int .u64 0, .int .u64 0]) = num n := by
  unfold num nl
  rw [wd_word h]
  have : ∀ k, k ≠ 0 → wd n k = 0 := fun k hk => by
    rw [wd_def, Nat.div_eq_of_lt]
    · rfl
    · refine Nat.lt_of_lt_of_le h ?_
      exact Nat.le_trans (by simp) (Nat.pow_le_pow_right (by decide) (Nat.one_le_iff_ne_zero.2 hk))
  rw [this 1 (by decide), this 2 (by decide), this 3 (by decide)]
theorem build_few {n : Nat} {k : Int} (hk : (n : Int) = k) (h : n < 18446744073709551616) (w : World) : (Instr.build 24 #[(0, .int .u64 k)]).run Try.prog w = .ok (num n) w := by
  subst hk
  rw [← num_few h]
  all_goals kernel_rfl
theorem build_none (w : World) : (Instr.build 24 #[]).run Try.prog w = .ok (num 0) w := by
  rw [← num_zero]
  all_goals kernel_rfl
attribute [local irreducible] Calls Instr.build Instr.buildSlice
end Go.Proofs.Ythbcgcncoggagaa
