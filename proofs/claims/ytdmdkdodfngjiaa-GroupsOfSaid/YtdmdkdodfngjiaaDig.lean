/- Numbers in digits of 16 bits: the plain part of the reference's limbs. -/
import Derived.Test.YtdmdkdodfngjiaaBit
set_option linter.unusedSimpArgs false
set_option linter.unusedVariables false
namespace Go.Proofs.Ytdmdkdodfngjiaa
open Go.RowKit

/-- Digit number i of 16 bits. -/
noncomputable def dig : Nat → Nat → Nat := opq fun a i => a / 65536 ^ i % 65536
theorem dig_def (a i : Nat) : dig a i = a / 65536 ^ i % 65536 := by unfold dig; rw [opq_eq]
theorem dig_lt (a i : Nat) : dig a i < 65536 := by rw [dig_def]; exact Nat.mod_lt _ (by decide)
/-- The lowest i digits. -/
noncomputable def lowN : Nat → Nat → Nat := opq fun a i => a % 65536 ^ i
theorem lowN_def (a i : Nat) : lowN a i = a % 65536 ^ i := by unfold lowN; rw [opq_eq]
theorem lowN_zero (a : Nat) : lowN a 0 = 0 := by rw [lowN_def, Nat.pow_zero, Nat.mod_one]
theorem B_16 : B = 65536 ^ 16 := by rw [B_eq]
theorem lowN_16 (a : Nat) : lowN a 16 = a % B := by rw [lowN_def, B_16]
theorem lowN_succ (a i : Nat) : lowN a (i + 1) = lowN a i + 65536 ^ i * dig a i := by
  rw [lowN_def, lowN_def, dig_def, Nat.pow_succ, Nat.mod_mul]
theorem lowN_lt (a i : Nat) : lowN a i < 65536 ^ i := by rw [lowN_def]; exact Nat.mod_lt _ (Nat.pow_pos (by decide))
theorem dig_mod_B (a i : Nat) (h : i < 16) : dig (a % B) i = dig a i := by
  rw [dig_def, dig_def, B_16]
  obtain ⟨k, hk⟩ : ∃ k, 16 = i + (1 + k) := ⟨15 - i, by omega⟩
  rw [hk, Nat.pow_add, Nat.mod_mul_right_div_self, Nat.pow_add, Nat.pow_one, Nat.mod_mul_right_mod]

/-- A digit is a word's. -/
theorem dig_word (a i : Nat) : w64 a (i / 4) / 2 ^ (16 * (i % 4)) % 65536 = dig a i := by
  rw [dig_def]; unfold w64
  have e : a / 65536 ^ i = a / 18446744073709551616 ^ (i / 4) / 65536 ^ (i % 4) := by
    rw [show 18446744073709551616 = 65536 ^ 4 by decide, ← Nat.pow_mul, Nat.div_div_eq_div_mul, ← Nat.pow_add]
    congr 2; omega
  rw [e]
  generalize a / 18446744073709551616 ^ (i / 4) = x
  have : i % 4 = 0 ∨ i % 4 = 1 ∨ i % 4 = 2 ∨ i % 4 = 3 := by omega
  rcases this with h | h | h | h <;> rw [h] <;> simp only [Nat.reduceMul, Nat.reducePow] <;> omega
theorem dig_wd (a i : Nat) : wd a (i / 4) / 2 ^ (16 * (i % 4)) % 65536 = (dig a i : Int) := by
  rw [wd_eq, ← dig_word a i, show (2 : Int) ^ (16 * (i % 4)) = ((2 ^ (16 * (i % 4)) : Nat) : Int) by simp]
  omega

theorem dig_wdt (a i : Nat) : (wd a (i / 4) / 2 ^ (16 * (i % 4))).tmod 65536 = (dig a i : Int) := by
  rw [Int.tmod_eq_emod_of_nonneg, dig_wd]
  rw [wd_eq, show (2 : Int) ^ (16 * (i % 4)) = ((2 ^ (16 * (i % 4)) : Nat) : Int) by simp, ← Int.natCast_ediv]
  exact Int.natCast_nonneg _

/-- What is carried to digit number i. -/
noncomputable def carN : Nat → Nat → Nat → Nat := opq fun a b i => (a % 65536 ^ i + b % 65536 ^ i) / 65536 ^ i
theorem carN_def (a b i : Nat) : carN a b i = (a % 65536 ^ i + b % 65536 ^ i) / 65536 ^ i := by unfold carN; rw [opq_eq]
theorem carN_zero (a b : Nat) : carN a b 0 = 0 := by rw [carN_def, Nat.pow_zero, Nat.mod_one, Nat.mod_one]
theorem carN_le (a b i : Nat) : carN a b i ≤ 1 := by
  rw [carN_def]
  have p : 0 < 65536 ^ i := Nat.pow_pos (by decide)
  have h1 := Nat.mod_lt a p
  have h2 := Nat.mod_lt b p
  have : (a % 65536 ^ i + b % 65536 ^ i) / 65536 ^ i < 2 := by rw [Nat.div_lt_iff_lt_mul p]; omega
  omega
theorem carN_16 {a b : Nat} (ha : a < B) (hb : b < B) : carN a b 16 = (a + b) / B := by
  rw [carN_def, ← B_16, Nat.mod_eq_of_lt ha, Nat.mod_eq_of_lt hb]
theorem add_digs (a b i : Nat) : (dig a i + dig b i + carN a b i) % 65536 = dig (a + b) i ∧ (dig a i + dig b i + carN a b i) / 65536 = carN a b (i + 1) := by
  rw [carN_def, carN_def, dig_def, dig_def, dig_def]
  have p : 0 < 65536 ^ i := Nat.pow_pos (by decide)
  rw [Nat.pow_succ, Nat.mod_mul, Nat.mod_mul]
  generalize 65536 ^ i = q at *
  have e1 : (a % q + q * (a / q % 65536) + (b % q + q * (b / q % 65536))) / (q * 65536) = (a / q % 65536 + b / q % 65536 + (a % q + b % q) / q) / 65536 := by
    rw [← Nat.div_div_eq_div_mul]
    congr 1
    rw [show a % q + q * (a / q % 65536) + (b % q + q * (b / q % 65536)) = (a % q + b % q) + q * (a / q % 65536 + b / q % 65536) by rw [Nat.mul_add]; omega, Nat.add_mul_div_left _ _ p]
    omega
  have e2 : (a + b) / q = a / q + b / q + (a % q + b % q) / q := by
    conv => lhs; rw [← Nat.div_add_mod a q, ← Nat.div_add_mod b q]
    rw [show q * (a / q) + a % q + (q * (b / q) + b % q) = (a % q + b % q) + q * (a / q + b / q) by rw [Nat.mul_add]; omega, Nat.add_mul_div_left _ _ p]
    omega
  rw [e1, e2]
  constructor <;> omega

theorem sub_digs (a b i : Nat) (hb : b < B) (hi : i < 16) :
    (dig a i + 65536 - dig b i - carN (a + B - b) b i) % 65536 = dig (a + B - b) i ∧ 1 - (dig a i + 65536 - dig b i - carN (a + B - b) b i) / 65536 = carN (a + B - b) b (i + 1) ∧
      dig b i + carN (a + B - b) b i ≤ dig a i + 65536 ∧ (dig a i + 65536 - dig b i - carN (a + B - b) b i) / 65536 ≤ 1 := by
  obtain ⟨h1, h2⟩ := add_digs (a + B - b) b i
  have e : a + B - b + b = a + B := by omega
  have d : dig (a + B) i = dig a i := by
    rw [← dig_mod_B (a + B) i hi, Nat.add_mod_right, dig_mod_B a i hi]
  rw [e, d] at h1
  have := carN_le (a + B - b) b i
  have := carN_le (a + B - b) b (i + 1)
  have := dig_lt a i; have := dig_lt b i; have := dig_lt (a + B - b) i
  omega
theorem sub_car {a b : Nat} (ha : a < B) (hb : b < B) : (carN (a + B - b) b 16 : Int) = bor a b := by
  rw [carN_def, ← B_16, Nat.mod_eq_of_lt hb, bor_def]
  by_cases h : a < b
  · rw [if_pos (by omega), Nat.mod_eq_of_lt (by omega), show a + B - b + b = a + B by omega, Nat.add_div_right _ B_pos, Nat.div_eq_of_lt ha]; rfl
  · rw [if_neg (by omega), show a + B - b = (a - b) + B by omega, Nat.add_mod_right, Nat.mod_eq_of_lt (by omega), show a - b + b = a by omega, Nat.div_eq_of_lt ha]; rfl

/-! ### A number is made of its digits -/
theorem wd_grow (Y d i k : Nat) (hY : Y < 65536 ^ i) (hd : d < 65536) (hk : i / 4 ≠ k) : wd (Y + 65536 ^ i * d) k = wd Y k := by
  rw [wd_def, wd_def]
  have pw : ∀ j, 18446744073709551616 ^ j = 65536 ^ (4 * j) := fun j => by rw [Nat.pow_mul]
  rw [pw]
  rcases Nat.lt_or_gt_of_ne hk with h | h
  · have l1 : Y + 65536 ^ i * d < 65536 ^ (i + 1) := by
      rw [Nat.pow_succ]
      have : 65536 ^ i * d ≤ 65536 ^ i * 65535 := Nat.mul_le_mul_left _ (by omega)
      omega
    have l2 : 65536 ^ (i + 1) ≤ 65536 ^ (4 * k) := Nat.pow_le_pow_right (by decide) (by omega)
    rw [Nat.div_eq_of_lt (by omega), Nat.div_eq_of_lt (by rw [Nat.pow_succ] at l2; omega)]
  · obtain ⟨j, hj⟩ : ∃ j, i = 4 * k + (4 + j) := ⟨i - 4 * k - 4, by omega⟩
    rw [hj, Nat.pow_add, Nat.pow_add, Nat.mul_assoc, Nat.add_mul_div_left _ _ (Nat.pow_pos (by decide)), show (65536 : Nat) ^ 4 = 18446744073709551616 by decide, Nat.mul_assoc, Nat.add_mul_mod_self_left]
theorem wd_grow_at (Y d i : Nat) (hY : Y < 65536 ^ i) (hd : d < 65536) : IntKind.u64.wrap (wd Y (i / 4) + IntKind.u64.wrap ((d : Int) * 2 ^ (16 * (i % 4)))) = wd (Y + 65536 ^ i * d) (i / 4) := by
  rw [wd_def, wd_def]
  have pw : ∀ j, 18446744073709551616 ^ j = 65536 ^ (4 * j) := fun j => by rw [Nat.pow_mul]
  rw [pw]
  have pi : 65536 ^ i = 65536 ^ (4 * (i / 4)) * 65536 ^ (i % 4) := by rw [← Nat.pow_add]; congr 1; omega
  rw [pi, Nat.mul_assoc, Nat.add_mul_div_left _ _ (Nat.pow_pos (by decide))]
  rw [pi] at hY
  have l := Nat.div_lt_of_lt_mul hY
  have e2 : (65536 : Nat) ^ (i % 4) = 2 ^ (16 * (i % 4)) := by rw [Nat.pow_mul]
  rw [show (2 : Int) ^ (16 * (i % 4)) = ((65536 ^ (i % 4) : Nat) : Int) by rw [e2]; simp]
  clear e2
  rw [IntKind.wrap_u64, IntKind.wrap_u64]
  generalize Y / 65536 ^ (4 * (i / 4)) = y at *
  have : i % 4 = 0 ∨ i % 4 = 1 ∨ i % 4 = 2 ∨ i % 4 = 3 := by omega
  rcases this with h | h | h | h <;> rw [h] at l ⊢ <;> simp only [Nat.reducePow] at l ⊢ <;> omega
theorem nl_grow (X i : Nat) (hi : i < 16) :
    (nl (lowN X i)).set (i / 4) (.int .u64 (IntKind.u64.wrap (wd (lowN X i) (i / 4) + IntKind.u64.wrap ((dig X i : Int) * 2 ^ (16 * (i % 4)))))) = nl (lowN X (i + 1)) := by
  rw [wd_grow_at _ _ _ (lowN_lt X i) (dig_lt X i), lowN_succ]
  have k : ∀ j, i / 4 ≠ j → wd (lowN X i + 65536 ^ i * dig X i) j = wd (lowN X i) j := fun j => wd_grow _ _ _ j (lowN_lt X i) (dig_lt X i)
  have : i / 4 = 0 ∨ i / 4 = 1 ∨ i / 4 = 2 ∨ i / 4 = 3 := by omega
  rcases this with h | h | h | h <;> rw [h] at k ⊢ <;> unfold nl <;> simp only [kA, kB]
  · rw [k 1 (by decide), k 2 (by decide), k 3 (by decide)]
  · rw [k 0 (by decide), k 2 (by decide), k 3 (by decide)]
  · rw [k 0 (by decide), k 1 (by decide), k 3 (by decide)]
  · rw [k 0 (by decide), k 1 (by decide), k 2 (by decide)]

/-! ### Bits of digits -/
theorem bit_dig (a i : Nat) : dig a (i / 16) / 2 ^ (i % 16) % 2 = a / 2 ^ i % 2 := by
  rw [dig_def]
  have e : a / 2 ^ i = a / 65536 ^ (i / 16) / 2 ^ (i % 16) := by
    rw [show 65536 = 2 ^ 16 by decide, ← Nat.pow_mul, Nat.div_div_eq_div_mul, ← Nat.pow_add]
    congr 2; omega
  rw [e]
  generalize a / 65536 ^ (i / 16) = x
  obtain ⟨k, hk⟩ : ∃ k, 16 = i % 16 + (1 + k) := ⟨15 - i % 16, by omega⟩
  have : (65536 : Nat) = 2 ^ (i % 16) * (2 * 2 ^ k) := by
    rw [show (65536 : Nat) = 2 ^ 16 by decide]
    conv => lhs; rw [hk]
    rw [Nat.pow_add, Nat.pow_add, Nat.pow_one]
  rw [this, Nat.mod_mul_right_div_self, Nat.mod_mul_right_mod]

/-! ### How digits compare -/
theorem top_eq (a b : Nat) (ha : a < B) (hb : b < B) : a / 65536 ^ 16 = b / 65536 ^ 16 := by
  rw [← B_16, Nat.div_eq_of_lt ha, Nat.div_eq_of_lt hb]
theorem next_dig (a i : Nat) : a / 65536 ^ i = 65536 * (a / 65536 ^ (i + 1)) + dig a i := by
  rw [dig_def, Nat.pow_succ, ← Nat.div_div_eq_div_mul]; omega
theorem dig_less {a b i : Nat} (h : a / 65536 ^ (i + 1) = b / 65536 ^ (i + 1)) (hd : dig a i < dig b i) : cmpN a b = -1 := by
  have : a / 65536 ^ i < b / 65536 ^ i := by rw [next_dig a i, next_dig b i, h]; omega
  have l : a < b := Nat.lt_of_not_le fun q => by have := Nat.div_le_div_right (c := 65536 ^ i) q; omega
  rw [cmpN_def, if_neg (by omega), if_pos l]
theorem dig_more {a b i : Nat} (h : a / 65536 ^ (i + 1) = b / 65536 ^ (i + 1)) (hd : dig b i < dig a i) : cmpN a b = 1 := by
  have : b / 65536 ^ i < a / 65536 ^ i := by rw [next_dig a i, next_dig b i, h]; omega
  have l : b < a := Nat.lt_of_not_le fun q => by have := Nat.div_le_div_right (c := 65536 ^ i) q; omega
  rw [cmpN_def, if_neg (by omega), if_neg (by omega)]
theorem dig_same {a b i : Nat} (h : a / 65536 ^ (i + 1) = b / 65536 ^ (i + 1)) (h1 : ¬ dig a i < dig b i) (h2 : ¬ dig b i < dig a i) : a / 65536 ^ i = b / 65536 ^ i := by
  rw [next_dig a i, next_dig b i, h]; omega
theorem dig_end {a b : Nat} (h : a / 65536 ^ 0 = b / 65536 ^ 0) : cmpN a b = 0 := by
  rw [Nat.pow_zero, Nat.div_one, Nat.div_one] at h
  rw [cmpN_def, if_pos h]

/-- The first digit from above that tells them apart. -/
theorem cmp_top (a b : Nat) : ∀ k, a / 65536 ^ k = b / 65536 ^ k → ∃ N, N ≤ k ∧ (∀ j, N ≤ j → j < k → dig a j = dig b j) ∧ ((N = 0 ∧ cmpN a b = 0) ∨ ∃ M, N = M + 1 ∧ ((dig a M < dig b M ∧ cmpN a b = -1) ∨ (dig b M < dig a M ∧ cmpN a b = 1)))
  | 0, h => ⟨0, Nat.le_refl _, fun j _ h => absurd h (by omega), .inl ⟨rfl, dig_end h⟩⟩
  | k + 1, h => by
    by_cases h1 : dig a k < dig b k
    · exact ⟨k + 1, Nat.le_refl _, fun j h2 h3 => absurd h3 (by omega), .inr ⟨k, rfl, .inl ⟨h1, dig_less h h1⟩⟩⟩
    · by_cases h2 : dig b k < dig a k
      · exact ⟨k + 1, Nat.le_refl _, fun j h2 h3 => absurd h3 (by omega), .inr ⟨k, rfl, .inr ⟨h2, dig_more h h2⟩⟩⟩
      · obtain ⟨N, hN, hd, hc⟩ := cmp_top a b k (dig_same h h1 h2)
        refine ⟨N, by omega, fun j h3 h4 => ?_, hc⟩
        by_cases e : j = k
        · subst e; omega
        · exact hd j h3 (by omega)

/-! ### Products -/
/-- The product's digits behind i rows and k digits of the next one. -/
noncomputable def accN : Nat → Nat → Nat → Nat → Nat := opq fun a b i k => (a % 65536 ^ i * b) % 65536 ^ (i + k) + dig a i * (b % 65536 ^ k) * 65536 ^ i
theorem accN_def (a b i k : Nat) : accN a b i k = (a % 65536 ^ i * b) % 65536 ^ (i + k) + dig a i * (b % 65536 ^ k) * 65536 ^ i := by unfold accN; rw [opq_eq]
noncomputable def rowN : Nat → Nat → Nat → Nat := opq fun a b i => a % 65536 ^ i * b
theorem rowN_def (a b i : Nat) : rowN a b i = a % 65536 ^ i * b := by unfold rowN; rw [opq_eq]
theorem dig_low (x i j : Nat) (h : i < j) : dig (x % 65536 ^ j) i = dig x i := by
  rw [dig_def, dig_def]
  obtain ⟨k, hk⟩ : ∃ k, j = i + (1 + k) := ⟨j - i - 1, by omega⟩
  rw [hk, Nat.pow_add, Nat.mod_mul_right_div_self, Nat.pow_add, Nat.pow_one, Nat.mod_mul_right_mod]
theorem dig_add_high (x y i j : Nat) (h : i < j) : dig (x + 65536 ^ j * y) i = dig x i := by
  rw [dig_def, dig_def]
  obtain ⟨k, hk⟩ : ∃ k, j = i + (1 + k) := ⟨j - i - 1, by omega⟩
  rw [hk, Nat.pow_add, Nat.mul_assoc, Nat.add_mul_div_left _ _ (Nat.pow_pos (by decide)), Nat.pow_add, Nat.pow_one, Nat.mul_assoc, Nat.add_mul_mod_self_left]
theorem dig_zero_of_lt {x i : Nat} (h : x < 65536 ^ i) : dig x i = 0 := by rw [dig_def, Nat.div_eq_of_lt h]
theorem accN_zero (a b i : Nat) : accN a b i 0 = rowN a b i % 65536 ^ i := by
  rw [accN_def, rowN_def, Nat.pow_zero, Nat.mod_one, Nat.mul_zero, Nat.zero_mul, Nat.add_zero, Nat.add_zero]
theorem accN_succ (a b i k : Nat) : accN a b i (k + 1) = accN a b i k + 65536 ^ (i + k) * (dig (rowN a b i) (i + k) + dig a i * dig b k) := by
  rw [accN_def, accN_def, rowN_def, dig_def (a % 65536 ^ i * b), dig_def b k, ← Nat.add_assoc i k 1, Nat.pow_succ, Nat.mod_mul, Nat.pow_succ 65536 k, Nat.mod_mul, Nat.pow_add]
  grind
theorem pow_p (i : Nat) : 0 < 65536 ^ i := Nat.pow_pos (by decide)
theorem accN_lt (a b i k : Nat) : accN a b i k < 65536 ^ (i + k + 1) := by
  rw [accN_def]
  have h1 := Nat.mod_lt (a % 65536 ^ i * b) (pow_p (i + k))
  have h2 := Nat.mod_lt b (pow_p k)
  have h3 := dig_lt a i
  have h4 : dig a i * (b % 65536 ^ k) * 65536 ^ i ≤ 65535 * (65536 ^ k - 1) * 65536 ^ i := Nat.mul_le_mul_right _ (Nat.mul_le_mul (by omega) (by omega))
  have h5 : 65535 * (65536 ^ k - 1) * 65536 ^ i ≤ 65535 * 65536 ^ (i + k) := by
    rw [Nat.pow_add, Nat.mul_comm (65536 ^ i), ← Nat.mul_assoc]
    exact Nat.mul_le_mul_right _ (Nat.mul_le_mul_left _ (by omega))
  rw [Nat.pow_succ]
  omega
/-- One digit of one row. -/
theorem mul_digs (a b i k : Nat) : dig (rowN a b i) (i + k) + dig a i * dig b k + accN a b i k / 65536 ^ (i + k) = accN a b i (k + 1) / 65536 ^ (i + k) ∧
    accN a b i k / 65536 ^ (i + k) < 65536 ∧ accN a b i (k + 1) / 65536 ^ (i + k) / 65536 = accN a b i (k + 1) / 65536 ^ (i + (k + 1)) ∧ accN a b i (k + 1) / 65536 ^ (i + k) % 65536 = dig (accN a b i (k + 1)) (i + k) := by
  refine ⟨?_, ?_, ?_, (dig_def _ _).symm⟩
  · rw [accN_succ, Nat.add_mul_div_left _ _ (pow_p _)]; omega
  · have := accN_lt a b i k
    rw [Nat.pow_succ] at this
    exact Nat.div_lt_of_lt_mul this
  · rw [Nat.div_div_eq_div_mul, ← Nat.pow_succ]; rfl
theorem rowN_lt {b : Nat} (hb : b < B) (a i : Nat) : rowN a b i < 65536 ^ (i + 16) := by
  rw [rowN_def, Nat.pow_add, ← B_16]
  have h := Nat.mod_lt a (pow_p i)
  by_cases h0 : b = 0
  · subst h0; rw [Nat.mul_zero]; exact Nat.mul_pos (pow_p i) B_pos
  · exact Nat.mul_lt_mul_of_lt_of_lt h hb
theorem rowN_succ {b : Nat} (hb : b < B) (a i : Nat) : accN a b i 16 = rowN a b (i + 1) := by
  have h := rowN_lt hb a i
  rw [rowN_def] at h
  rw [accN_def, rowN_def, Nat.mod_eq_of_lt h, ← B_16, Nat.mod_eq_of_lt hb, dig_def, Nat.pow_succ, Nat.mod_mul]
  grind
theorem rowN_zero (a b : Nat) : rowN a b 0 = 0 := by rw [rowN_def, Nat.pow_zero, Nat.mod_one, Nat.zero_mul]
theorem rowN_16 {a : Nat} (ha : a < B) (b : Nat) : rowN a b 16 = a * b := by rw [rowN_def, ← B_16, Nat.mod_eq_of_lt ha]
/-- The digits in memory behind i rows and k digits of the next one. -/
noncomputable def memN : Nat → Nat → Nat → Nat → Nat → Nat := opq fun a b i k j => if j < i + k then dig (accN a b i k) j else dig (rowN a b i) j
theorem memN_def (a b i k j : Nat) : memN a b i k j = if j < i + k then dig (accN a b i k) j else dig (rowN a b i) j := by unfold memN; rw [opq_eq]
theorem memN_start (a b i j : Nat) : memN a b i 0 j = dig (rowN a b i) j := by
  rw [memN_def, Nat.add_zero, accN_zero]
  split
  · exact dig_low _ _ _ (by omega)
  · rfl
theorem memN_at (a b i k : Nat) : memN a b i k (i + k) = dig (rowN a b i) (i + k) := by rw [memN_def, if_neg (by omega)]
theorem memN_set (a b i k : Nat) : memN a b i (k + 1) (i + k) = dig (accN a b i (k + 1)) (i + k) := by rw [memN_def, if_pos (by omega)]
theorem memN_other (a b i k j : Nat) (h : j ≠ i + k) : memN a b i (k + 1) j = memN a b i k j := by
  rw [memN_def, memN_def]
  by_cases l : j < i + k
  · rw [if_pos (by omega), if_pos l, accN_succ, dig_add_high _ _ _ _ l]
  · rw [if_neg (by omega), if_neg l]
theorem row_top {b : Nat} (hb : b < B) (a i : Nat) : dig (rowN a b (i + 1)) (i + 16) = accN a b i 16 / 65536 ^ (i + 16) := by
  rw [← rowN_succ hb, dig_def, Nat.mod_eq_of_lt]
  have := accN_lt a b i 16
  rw [Nat.pow_succ] at this
  exact Nat.div_lt_of_lt_mul this
theorem row_other {b : Nat} (hb : b < B) (a i j : Nat) (h : j ≠ i + 16) : dig (rowN a b (i + 1)) j = memN a b i 16 j := by
  rw [memN_def]
  by_cases l : j < i + 16
  · rw [if_pos l, rowN_succ hb]
  · rw [if_neg l, dig_zero_of_lt, dig_zero_of_lt]
    · exact Nat.lt_of_lt_of_le (rowN_lt hb a i) (Nat.pow_le_pow_right (by decide) (by omega))
    · exact Nat.lt_of_lt_of_le (rowN_lt hb a (i + 1)) (Nat.pow_le_pow_right (by decide) (by omega))
theorem dig_half (x j : Nat) : dig x (16 + j) = dig (x / B) j := by
  rw [dig_def, dig_def, B_16, Nat.div_div_eq_div_mul, ← Nat.pow_add]

def Stop (p : Prop) : Prop := p
theorem cutHere {p : Prop} (h : Stop p) : p := h
/-! ### A row of words -/
noncomputable def u64s (n : Nat) (w : Nat → Nat) : List Value := opq ((List.range n).map fun j => Value.int .u64 (w j : Int))
theorem u64s_def (n : Nat) (w : Nat → Nat) : u64s n w = (List.range n).map fun j => Value.int .u64 (w j : Int) := by unfold u64s; rw [opq_eq]
@[simp] theorem u64s_length (n : Nat) (w : Nat → Nat) : (u64s n w).length = n := by rw [u64s_def]; simp
theorem u64s_at {n : Nat} {w : Nat → Nat} {i : Nat} (h : i < n) : (u64s n w)[i]? = some (.int .u64 (w i : Int)) := by rw [u64s_def]; simp [h]
theorem u64s_set {n : Nat} {w v : Nat → Nat} {i x : Nat} (hx : v i = x) (h : ∀ j, j < n → j ≠ i → v j = w j) : (u64s n w).set i (.int .u64 (x : Int)) = u64s n v := by
  rw [u64s_def, u64s_def]
  refine List.ext_getElem? fun k => ?_
  rw [List.getElem?_set]
  simp only [List.length_map, List.length_range, List.getElem?_map]
  by_cases hk : k < n
  · by_cases e : i = k
    · subst e; simp [hk, hx]
    · rw [if_neg e]; simp [List.getElem?_range hk, h k hk (Ne.symm e)]
  · have : (List.range n)[k]? = none := by simp; omega
    by_cases e : i = k
    · subst e; simp [hk]
    · rw [if_neg e, this]; rfl
theorem u64s_congr {n : Nat} {w v : Nat → Nat} (h : ∀ j, j < n → w j = v j) : u64s n w = u64s n v := by
  rw [u64s_def, u64s_def]
  refine List.map_congr_left fun j hj => ?_
  rw [h j (List.mem_range.1 hj)]
theorem u64s_one (n : Nat) (w : Nat → Nat) : (u64s n w).all (·.oneCell') = true := by
  rw [u64s_def]; simp [Value.oneCell']
end Go.Proofs.Ytdmdkdodfngjiaa
