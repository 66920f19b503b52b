/- Powers that go round: the plain part. -/
import Derived.Test.YtdmdkdodfngjiaaModsDeeds
set_option linter.unusedSimpArgs false
set_option linter.unusedVariables false
namespace Go.Proofs.Ytdmdkdodfngjiaa
open Go.RowKit

noncomputable def powN : Nat → Nat → Nat → Nat := opq fun a n m => a ^ n % m
theorem powN_def (a n m : Nat) : powN a n m = a ^ n % m := by unfold powN; rw [opq_eq]
noncomputable def pR : Nat → Nat → Nat → Nat → Nat := opq fun a n m j => a ^ (n / 2 ^ j) % m
theorem pR_def (a n m j : Nat) : pR a n m j = a ^ (n / 2 ^ j) % m := by unfold pR; rw [opq_eq]
theorem pR_top {a n m N : Nat} (h1 : 1 < m) (h : n < 2 ^ N) : pR a n m N = 1 := by
  rw [pR_def, Nat.div_eq_of_lt h, Nat.pow_zero, Nat.mod_eq_of_lt h1]
theorem pR_zero (a n m : Nat) : pR a n m 0 = powN a n m := by rw [pR_def, powN_def, Nat.pow_zero, Nat.div_one]
theorem pR_lt {m : Nat} (hm : 1 < m) (a n j : Nat) : pR a n m j < m := by rw [pR_def]; exact Nat.mod_lt _ (by omega)
theorem pow_round (a n m j : Nat) : ∃ T, mulN (pR a n m (j + 1)) (pR a n m (j + 1)) m = T ∧ ((n / 2 ^ j % 2 = 0 ∧ pR a n m j = T) ∨ (n / 2 ^ j % 2 = 1 ∧ mulN T a m = pR a n m j)) := by
  refine ⟨_, rfl, ?_⟩
  have hA : n / 2 ^ j = 2 * (n / 2 ^ (j + 1)) + n / 2 ^ j % 2 := by
    rw [Nat.pow_succ, ← Nat.div_div_eq_div_mul]; omega
  simp only [mulN_def, pR_def]
  generalize n / 2 ^ (j + 1) = A at *
  generalize n / 2 ^ j = D at *
  have h2 : D % 2 = 0 ∨ D % 2 = 1 := by omega
  rcases h2 with h | h
  · left
    refine ⟨h, ?_⟩
    rw [h, Nat.add_zero] at hA
    rw [← Nat.mul_mod, hA, Nat.two_mul, Nat.pow_add]
  · right
    refine ⟨h, ?_⟩
    rw [h] at hA
    rw [Nat.mul_mod, Nat.mod_mod, ← Nat.mul_mod, Nat.mul_mod, ← Nat.mul_mod (a ^ A), ← Nat.mul_mod, hA, Nat.pow_succ, Nat.two_mul, Nat.pow_add]
end Go.Proofs.Ytdmdkdodfngjiaa
