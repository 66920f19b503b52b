/- Pairs of numbers as values; what the laws ModsPowers, ModsInverse, ModsTwo want of plain numbers. -/
import Derived.Test.YtdmdkdodfngjiaaModsPlain
set_option linter.unusedSimpArgs false
set_option linter.unusedVariables false
namespace Go.Proofs.Ytdmdkdodfngjiaa
open Go.RowKit

noncomputable abbrev num2 (a b : Nat) : Value := .agg (nl2 a b).toArray
abbrev u64x2 (a b : Nat) : Value := .agg #[.int .u64 (a : Int), .int .u64 (b : Int)]
abbrev u32x2 (a b : Nat) : Value := .agg #[.int .u32 (a : Int), .int .u32 (b : Int)]
instance : CellT Try.prog 131 := .mk' (by kernel_rfl) (by kernel_rfl)

theorem pow_add' (a i k m : Nat) : mulN (powN a i m) (powN a k m) m = powN a (i + k) m := by
  rw [mulN_def, powN_def, powN_def, powN_def, ← Nat.mul_mod, Nat.pow_add]
theorem pow_pow' (a i k m : Nat) : powN (powN a i m) k m = powN a (i * k) m := by
  rw [powN_def, powN_def, powN_def, Nat.pow_mul, ← Nat.pow_mod]
theorem pow_mul' (a b i m : Nat) : powN (mulN a b m) i m = mulN (powN a i m) (powN b i m) m := by
  rw [powN_def, powN_def, powN_def, mulN_def, mulN_def, ← Nat.mul_mod, ← Nat.pow_mod, Nat.mul_pow]
theorem pow_one' {a m : Nat} (h : a < m) : powN a 1 m = a := by rw [powN_def, Nat.pow_one, Nat.mod_eq_of_lt h]
theorem pow_zero' {a m : Nat} (h : 1 < m) : powN a 0 m = 1 := by rw [powN_def, Nat.pow_zero, Nat.mod_eq_of_lt h]
theorem pow_lt' {m : Nat} (h : 1 < m) (a i : Nat) : powN a i m < m := by rw [powN_def]; exact Nat.mod_lt _ (by omega)

theorem gcd_modl (a m : Nat) : Nat.gcd (a % m) m = Nat.gcd a m := by
  rw [← Nat.gcd_rec, Nat.gcd_comm]
theorem gcd_prod (a b m : Nat) : Nat.gcd (mulN a b m) m = 1 ↔ Nat.gcd a m = 1 ∧ Nat.gcd b m = 1 := by
  rw [mulN_def, gcd_modl]
  constructor
  · intro h
    have h1 : Nat.gcd a m ∣ 1 := by rw [← h]; exact Nat.dvd_gcd (Nat.dvd_trans (Nat.gcd_dvd_left a m) (Nat.dvd_mul_right a b)) (Nat.gcd_dvd_right a m)
    have h2 : Nat.gcd b m ∣ 1 := by rw [← h]; exact Nat.dvd_gcd (Nat.dvd_trans (Nat.gcd_dvd_left b m) (Nat.dvd_mul_left b a)) (Nat.gcd_dvd_right b m)
    exact ⟨Nat.dvd_one.1 h1, Nat.dvd_one.1 h2⟩
  · intro ⟨h1, h2⟩
    exact Nat.Coprime.mul_left h1 h2
theorem coprime_of_inv {x a m : Nat} (h1 : 1 < m) (h : x * a % m = 1) : Nat.gcd x m = 1 := by
  have d : Nat.gcd x m ∣ 1 := by
    rw [← h]
    exact (Nat.dvd_mod_iff (Nat.gcd_dvd_right x m)).2 (Nat.dvd_trans (Nat.gcd_dvd_left x m) (Nat.dvd_mul_right x a))
  exact Nat.dvd_one.1 d
theorem inv_back {a m : Nat} (h1 : 1 < m) (ha : a < m) (hg : Nat.gcd a m = 1) : invM (invM a m) m = a ∧ Nat.gcd (invM a m) m = 1 := by
  obtain ⟨s1, s2⟩ := invM_spec h1 ha hg
  have c := coprime_of_inv h1 s2
  refine ⟨?_, c⟩
  rw [invM_yes c]
  exact invN_is ha (by rw [Nat.mul_comm]; exact s2)
theorem inv_prod {a b m : Nat} (h1 : 1 < m) (ha : a < m) (hb : b < m) (hga : Nat.gcd a m = 1) (hgb : Nat.gcd b m = 1) : mulN (invM a m) (invM b m) m = invM (mulN a b m) m := by
  obtain ⟨s1, s2⟩ := invM_spec h1 ha hga
  obtain ⟨t1, t2⟩ := invM_spec h1 hb hgb
  rw [invM_yes ((gcd_prod a b m).2 ⟨hga, hgb⟩)]
  refine (invN_is (mul_lt' h1 _ _) ?_).symm
  rw [mulN_def, mulN_def, ← Nat.mul_mod, show invM a m * invM b m * (a * b) = invM a m * a * (invM b m * b) by
    rw [Nat.mul_assoc, Nat.mul_left_comm (invM b m) a b, ← Nat.mul_assoc], Nat.mul_mod, s2, t2, Nat.mul_one, Nat.mod_eq_of_lt h1]
/-- The sentence of the Chinese. -/
theorem two_key {p q X : Nat} (h1 : 1 < q) (hg : Nat.gcd p q = 1) (hp : 0 < p) (hX : X < p * q) : mulN (subN (X % q) (X % p % q) q) (invM (p % q) q) q = X / p := by
  have l1 : p % q < q := Nat.mod_lt _ (by omega)
  have g1 : Nat.gcd (p % q) q = 1 := by rw [gcd_modl]; exact hg
  obtain ⟨s1, s2⟩ := invM_spec h1 l1 g1
  have e := Nat.div_add_mod X p
  have lk : X / p < q := by rw [Nat.div_lt_iff_lt_mul hp, Nat.mul_comm]; exact hX
  generalize X / p = k at *
  generalize X % p = a at *
  have d : subN (X % q) (a % q) q = p * k % q := by
    rw [← e, Nat.add_mod]
    exact sub_add (Nat.mod_lt _ (by omega)) (Nat.mod_lt _ (by omega))
  rw [d, mulN_def, Nat.mod_mul_mod, show p * k * invM (p % q) q = k * (invM (p % q) q * p) by
    rw [Nat.mul_comm p k, Nat.mul_assoc, Nat.mul_comm p], ← Nat.mul_mod_mod, ← Nat.mul_mod_mod (invM (p % q) q) p q, s2, Nat.mul_one, Nat.mod_eq_of_lt lk]
end Go.Proofs.Ytdmdkdodfngjiaa
