/- Groups: the plain part of the laws. -/
import Derived.Test.YtdmdkdodfngjiaaGroup
set_option linter.unusedSimpArgs false
set_option linter.unusedVariables false
namespace Go.Proofs.Ytdmdkdodfngjiaa
open Go.RowKit

theorem in_of_pow {p q x : Nat} (h1 : 1 < p) (hx : x < p) (hq : q ≠ 0) (hp : powN x q p = 1) : inG p q x := by
  refine ⟨⟨h1, fun h0 => ?_, hx⟩, hp⟩
  rw [h0, powN_def, Nat.zero_pow (by omega), Nat.zero_mod] at hp
  exact absurd hp (by decide)
theorem pow_mod' (a n p : Nat) : (a % p) ^ n % p = a ^ n % p := (Nat.pow_mod a n p).symm
theorem in_mul {p q a b : Nat} (hq : q ≠ 0) (ha : inG p q a) (hb : inG p q b) : inG p q (mulN a b p) := by
  obtain ⟨⟨h1, _, _⟩, ea⟩ := ha
  obtain ⟨_, eb⟩ := hb
  refine in_of_pow h1 (mul_lt' h1 a b) hq ?_
  rw [powN_def] at ea eb
  rw [powN_def, mulN_def, pow_mod', Nat.mul_pow, Nat.mul_mod, ea, eb, Nat.mod_eq_of_lt (by omega)]
theorem in_exp {p q a : Nat} (hq : q ≠ 0) (ha : inG p q a) (n : Nat) : inG p q (powN a n p) := by
  obtain ⟨⟨h1, _, _⟩, ea⟩ := ha
  refine in_of_pow h1 (pow_lt' h1 a n) hq ?_
  rw [powN_def] at ea
  rw [powN_def, powN_def, pow_mod', ← Nat.pow_mul, Nat.mul_comm, Nat.pow_mul, Nat.pow_mod, ea, Nat.one_pow, Nat.mod_eq_of_lt h1]
theorem in_one {p q : Nat} (h1 : 1 < p) (hq : q ≠ 0) : inG p q 1 :=
  in_of_pow h1 h1 hq (by rw [powN_def, Nat.one_pow, Nat.mod_eq_of_lt h1])
theorem gcd_of_one {a m y : Nat} (h1 : 1 < m) (h : y * a % m = 1) : Nat.gcd a m = 1 := by
  have d1 : Nat.gcd a m ∣ y * a := Nat.dvd_trans (Nat.gcd_dvd_left a m) (Nat.dvd_mul_left a y)
  have d2 : Nat.gcd a m ∣ m := Nat.gcd_dvd_right a m
  have e := Nat.div_add_mod (y * a) m
  rw [h] at e
  have d3 : Nat.gcd a m ∣ m * (y * a / m) := Nat.dvd_trans d2 (Nat.dvd_mul_right _ _)
  have : Nat.gcd a m ∣ 1 := (Nat.dvd_add_right d3).mp (by rw [e]; exact d1)
  exact Nat.dvd_one.mp this
theorem in_gcd {p q a : Nat} (hq : q ≠ 0) (ha : inG p q a) : Nat.gcd a p = 1 := by
  obtain ⟨⟨h1, _, _⟩, ea⟩ := ha
  rw [powN_def] at ea
  refine gcd_of_one (y := a ^ (q - 1)) h1 ?_
  rw [← Nat.pow_succ, show (q - 1).succ = q by omega, ea]
theorem in_inv {p q a : Nat} (hq : q ≠ 0) (ha : inG p q a) : invM a p < p ∧ inG p q (invM a p) ∧ mulN a (invM a p) p = 1 := by
  have hg := in_gcd hq ha
  obtain ⟨⟨h1, h2, h3⟩, ea⟩ := ha
  obtain ⟨l, e⟩ := invM_spec h1 h3 hg
  refine ⟨l, in_of_pow h1 l hq ?_, by rw [mulN_def, Nat.mul_comm]; exact e⟩
  rw [powN_def] at ea
  rw [powN_def]
  have k : (invM a p * a) ^ q % p = 1 := by rw [Nat.pow_mod, e, Nat.one_pow, Nat.mod_eq_of_lt h1]
  rw [Nat.mul_pow, Nat.mul_mod, ea, Nat.mul_one, Nat.mod_mod] at k
  exact k
theorem pow_red {p q a : Nat} (ha : inG p q a) (n : Nat) : powN a n p = powN a (n % q) p := by
  obtain ⟨⟨h1, _, _⟩, ea⟩ := ha
  rw [powN_def] at ea
  rw [powN_def, powN_def]
  conv => lhs; rw [← Nat.div_add_mod n q]
  rw [Nat.pow_add, Nat.pow_mul, Nat.mul_mod, Nat.pow_mod, ea, Nat.one_pow, Nat.mod_eq_of_lt h1, Nat.one_mul, Nat.mod_mod]
theorem pow_pow (a n k p : Nat) : powN (powN a n p) k p = powN a (n * k) p := by
  rw [powN_def, powN_def, powN_def, pow_mod', ← Nat.pow_mul]
theorem pow_sum (a n k p : Nat) : mulN (powN a n p) (powN a k p) p = powN a (n + k) p := by
  rw [mulN_def, powN_def, powN_def, powN_def, ← Nat.mul_mod, ← Nat.pow_add]
theorem pow_first {p a : Nat} (ha : a < p) : powN a 1 p = a := by rw [powN_def, Nat.pow_one, Nat.mod_eq_of_lt ha]
/-- A power is undone. -/
theorem pow_back {p q a n y : Nat} (ha : inG p q a) (h : n * y % q = 1) : powN (powN a n p) y p = a := by
  rw [pow_pow, pow_red ha, h]
  exact pow_first ha.1.2.2
end Go.Proofs.Ytdmdkdodfngjiaa
