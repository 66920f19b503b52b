import Derived.Test.YtaaahfjpnggkbaaGreatDoorHA
import Derived.Test.YtaaahfjpnggkbaaGreatDoorHA2
import Derived.Test.YtaaahfjpnggkbaaGreatDoorHF2
set_option linter.unusedSimpArgs false
set_option linter.unusedVariables false
set_option maxRecDepth 100000
set_option maxHeartbeats 20000000
namespace Go.Proofs.YtaaahfjpnggkbaaGreatDoor
open Go.RowKit
section
def Stop (p : Prop) : Prop := p
theorem cutHere {p : Prop} (h : Stop p) : p := h
end
section
noncomputable def dig : Nat → Nat → Nat := opq fun a i => a / 65536 ^ i % 65536
theorem xCf (a i : Nat) : dig a i = a / 65536 ^ i % 65536 := by unfold dig; rw [xBs]
theorem xFy (a i : Nat) : dig a i < 65536 := by rw [xCf]; exact Nat.mod_lt _ (by decide)
noncomputable def lowN : Nat → Nat → Nat := opq fun a i => a % 65536 ^ i
theorem xIj (a i : Nat) : lowN a i = a % 65536 ^ i := by unfold lowN; rw [xBs]
theorem lowN_zero (a : Nat) : lowN a 0 = 0 := by rw [xIj, Nat.pow_zero, Nat.mod_one]
theorem B_16 : B = 65536 ^ 16 := by rw [B_eq]
theorem lowN_16 (a : Nat) : lowN a 16 = a % B := by rw [xIj, B_16]
theorem lowN_succ (a i : Nat) : lowN a (i + 1) = lowN a i + 65536 ^ i * dig a i := by
 rw [xIj, xIj, xCf, Nat.pow_succ, Nat.mod_mul]
theorem lowN_lt (a i : Nat) : lowN a i < 65536 ^ i := by rw [xIj]; exact Nat.mod_lt _ (Nat.pow_pos (by decide))
theorem dig_mod_B (a i : Nat) (h : i < 16) : dig (a % B) i = dig a i := by
 rw [xCf, xCf, B_16]
 obtain ⟨k, hk⟩ : ∃ k, 16 = i + (1 + k) := ⟨15 - i, by omega⟩
 rw [hk, Nat.pow_add, Nat.mod_mul_right_div_self, Nat.pow_add, Nat.pow_one, Nat.mod_mul_right_mod]
theorem dig_word (a i : Nat) : w64 a (i / 4) / 2 ^ (16 * (i % 4)) % 65536 = dig a i := by
 rw [xCf]; unfold w64
 have e : a / 65536 ^ i = a / 18446744073709551616 ^ (i / 4) / 65536 ^ (i % 4) := by
  rw [show 18446744073709551616 = 65536 ^ 4 by decide, ← Nat.pow_mul, Nat.div_div_eq_div_mul, ← Nat.pow_add]
  congr 2; omega
 rw [e]
 generalize a / 18446744073709551616 ^ (i / 4) = x
 have : i % 4 = 0 ∨ i % 4 = 1 ∨ i % 4 = 2 ∨ i % 4 = 3 := by omega
 rcases this with h | h | h | h <;> rw [h] <;> simp only [Nat.reduceMul, Nat.reducePow] <;> omega
theorem dig_wd (a i : Nat) : wd a (i / 4) / 2 ^ (16 * (i % 4)) % 65536 = (dig a i : Int) := by
 rw [xFm, ← dig_word a i, show (2 : Int) ^ (16 * (i % 4)) = ((2 ^ (16 * (i % 4)) : Nat) : Int) by simp]
 omega
theorem dig_wdt (a i : Nat) : (wd a (i / 4) / 2 ^ (16 * (i % 4))).tmod 65536 = (dig a i : Int) := by
 rw [Int.tmod_eq_emod_of_nonneg, dig_wd]
 rw [xFm, show (2 : Int) ^ (16 * (i % 4)) = ((2 ^ (16 * (i % 4)) : Nat) : Int) by simp, ← Int.natCast_ediv]
 exact Int.natCast_nonneg _
noncomputable def carN : Nat → Nat → Nat → Nat := opq fun a b i => (a % 65536 ^ i + b % 65536 ^ i) / 65536 ^ i
theorem xGr (a b i : Nat) : carN a b i = (a % 65536 ^ i + b % 65536 ^ i) / 65536 ^ i := by unfold carN; rw [xBs]
theorem carN_zero (a b : Nat) : carN a b 0 = 0 := by rw [xGr, Nat.pow_zero, Nat.mod_one, Nat.mod_one]
theorem carN_le (a b i : Nat) : carN a b i ≤ 1 := by
 rw [xGr]
 have p : 0 < 65536 ^ i := Nat.pow_pos (by decide)
 have h1 := Nat.mod_lt a p
 have h2 := Nat.mod_lt b p
 have : (a % 65536 ^ i + b % 65536 ^ i) / 65536 ^ i < 2 := by rw [Nat.div_lt_iff_lt_mul p]; omega
 omega
theorem carN_16 {a b : Nat} (ha : a < B) (hb : b < B) : carN a b 16 = (a + b) / B := by
 rw [xGr, ← B_16, Nat.mod_eq_of_lt ha, Nat.mod_eq_of_lt hb]
theorem add_digs (a b i : Nat) : (dig a i + dig b i + carN a b i) % 65536 = dig (a + b) i ∧ (dig a i + dig b i + carN a b i) / 65536 = carN a b (i + 1) := by
 rw [xGr, xGr, xCf, xCf, xCf]
 have p : 0 < 65536 ^ i := Nat.pow_pos (by decide)
 rw [Nat.pow_succ, Nat.mod_mul, Nat.mod_mul]
 generalize 65536 ^ i = q at *
 have e1 : (a % q + q * (a / q % 65536) + (b % q + q * (b / q % 65536))) / (q * 65536) = (a / q % 65536 + b / q % 65536 + (a % q + b % q) / q) / 65536 := by
  rw [← Nat.div_div_eq_div_mul]
  congr 1
  rw [show a % q + q * (a / q % 65536) + (b % q + q * (b / q % 65536)) = (a % q + b % q) + q * (a / q % 65536 + b / q % 65536) by rw [Nat.mul_add]; omega, Nat.add_mul_div_left _ _ p]
  omega
 have e2 : (a + b) / q = a / q + b / q + (a % q + b % q) / q := by
  conv => lhs; rw [← Nat.div_add_mod a q, ← Nat.div_add_mod b q]
  rw [show q * (a / q) + a % q + (q * (b / q) + b % q) = (a % q + b % q) + q * (a / q + b / q) by rw [Nat.mul_add]; omega, Nat.add_mul_div_left _ _ p]
  omega
 rw [e1, e2]
 constructor <;> omega
theorem sub_digs (a b i : Nat) (hb : b < B) (hi : i < 16) :
  (dig a i + 65536 - dig b i - carN (a + B - b) b i) % 65536 = dig (a + B - b) i ∧ 1 - (dig a i + 65536 - dig b i - carN (a + B - b) b i) / 65536 = carN (a + B - b) b (i + 1) ∧
   dig b i + carN (a + B - b) b i ≤ dig a i + 65536 ∧ (dig a i + 65536 - dig b i - carN (a + B - b) b i) / 65536 ≤ 1 := by
 obtain ⟨h1, h2⟩ := add_digs (a + B - b) b i
 have e : a + B - b + b = a + B := by omega
 have d : dig (a + B) i = dig a i := by
  rw [← dig_mod_B (a + B) i hi, Nat.add_mod_right, dig_mod_B a i hi]
 rw [e, d] at h1
 have := carN_le (a + B - b) b i
 have := carN_le (a + B - b) b (i + 1)
 have := xFy a i; have := xFy b i; have := xFy (a + B - b) i
 omega
theorem sub_car {a b : Nat} (ha : a < B) (hb : b < B) : (carN (a + B - b) b 16 : Int) = bor a b := by
 rw [xGr, ← B_16, Nat.mod_eq_of_lt hb, xDo]
 by_cases h : a < b
 ·rw [if_pos (by omega), Nat.mod_eq_of_lt (by omega), show a + B - b + b = a + B by omega, Nat.add_div_right _ xEy, Nat.div_eq_of_lt ha]; rfl
 ·rw [if_neg (by omega), show a + B - b = (a - b) + B by omega, Nat.add_mod_right, Nat.mod_eq_of_lt (by omega), show a - b + b = a by omega, Nat.div_eq_of_lt ha]; rfl
theorem wd_grow (Y d i k : Nat) (hY : Y < 65536 ^ i) (hd : d < 65536) (hk : i / 4 ≠ k) : wd (Y + 65536 ^ i * d) k = wd Y k := by
 rw [xDe, xDe]
 have pw : ∀ j, 18446744073709551616 ^ j = 65536 ^ (4 * j) := fun j => by rw [Nat.pow_mul]
 rw [pw]
 rcases Nat.lt_or_gt_of_ne hk with h | h
 ·have l1 : Y + 65536 ^ i * d < 65536 ^ (i + 1) := by
   rw [Nat.pow_succ]
   have : 65536 ^ i * d ≤ 65536 ^ i * 65535 := Nat.mul_le_mul_left _ (by omega)
   omega
  have l2 : 65536 ^ (i + 1) ≤ 65536 ^ (4 * k) := Nat.pow_le_pow_right (by decide) (by omega)
  rw [Nat.div_eq_of_lt (by omega), Nat.div_eq_of_lt (by rw [Nat.pow_succ] at l2; omega)]
 ·obtain ⟨j, hj⟩ : ∃ j, i = 4 * k + (4 + j) := ⟨i - 4 * k - 4, by omega⟩
  rw [hj, Nat.pow_add, Nat.pow_add, Nat.mul_assoc, Nat.add_mul_div_left _ _ (Nat.pow_pos (by decide)), show (65536 : Nat) ^ 4 = 18446744073709551616 by decide, Nat.mul_assoc, Nat.add_mul_mod_self_left]
theorem wd_grow_at (Y d i : Nat) (hY : Y < 65536 ^ i) (hd : d < 65536) : IntKind.u64.wrap (wd Y (i / 4) + IntKind.u64.wrap ((d : Int) * 2 ^ (16 * (i % 4)))) = wd (Y + 65536 ^ i * d) (i / 4) := by
 rw [xDe, xDe]
 have pw : ∀ j, 18446744073709551616 ^ j = 65536 ^ (4 * j) := fun j => by rw [Nat.pow_mul]
 rw [pw]
 have pi : 65536 ^ i = 65536 ^ (4 * (i / 4)) * 65536 ^ (i % 4) := by rw [← Nat.pow_add]; congr 1; omega
 rw [pi, Nat.mul_assoc, Nat.add_mul_div_left _ _ (Nat.pow_pos (by decide))]
 rw [pi] at hY
 have l := Nat.div_lt_of_lt_mul hY
 have e2 : (65536 : Nat) ^ (i % 4) = 2 ^ (16 * (i % 4)) := by rw [Nat.pow_mul]
 rw [show (2 : Int) ^ (16 * (i % 4)) = ((65536 ^ (i % 4) : Nat) : Int) by rw [e2]; simp]
 clear e2
 rw [IntKind.wrap_u64, IntKind.wrap_u64]
 generalize Y / 65536 ^ (4 * (i / 4)) = y at *
 have : i % 4 = 0 ∨ i % 4 = 1 ∨ i % 4 = 2 ∨ i % 4 = 3 := by omega
 rcases this with h | h | h | h <;> rw [h] at l ⊢ <;> simp only [Nat.reducePow] at l ⊢ <;> omega
theorem nl_grow (X i : Nat) (hi : i < 16) :
  (nl (lowN X i)).set (i / 4) (.int .u64 (IntKind.u64.wrap (wd (lowN X i) (i / 4) + IntKind.u64.wrap ((dig X i : Int) * 2 ^ (16 * (i % 4)))))) = nl (lowN X (i + 1)) := by
 rw [wd_grow_at _ _ _ (lowN_lt X i) (xFy X i), lowN_succ]
 have k : ∀ j, i / 4 ≠ j → wd (lowN X i + 65536 ^ i * dig X i) j = wd (lowN X i) j := fun j => wd_grow _ _ _ j (lowN_lt X i) (xFy X i)
 have : i / 4 = 0 ∨ i / 4 = 1 ∨ i / 4 = 2 ∨ i / 4 = 3 := by omega
 rcases this with h | h | h | h <;> rw [h] at k ⊢ <;> unfold nl <;> simp only [kA, kB]
 ·rw [k 1 (by decide), k 2 (by decide), k 3 (by decide)]
 ·rw [k 0 (by decide), k 2 (by decide), k 3 (by decide)]
 ·rw [k 0 (by decide), k 1 (by decide), k 3 (by decide)]
 ·rw [k 0 (by decide), k 1 (by decide), k 2 (by decide)]
theorem bit_dig (a i : Nat) : dig a (i / 16) / 2 ^ (i % 16) % 2 = a / 2 ^ i % 2 := by
 rw [xCf]
 have e : a / 2 ^ i = a / 65536 ^ (i / 16) / 2 ^ (i % 16) := by
  rw [show 65536 = 2 ^ 16 by decide, ← Nat.pow_mul, Nat.div_div_eq_div_mul, ← Nat.pow_add]
  congr 2; omega
 rw [e]
 generalize a / 65536 ^ (i / 16) = x
 obtain ⟨k, hk⟩ : ∃ k, 16 = i % 16 + (1 + k) := ⟨15 - i % 16, by omega⟩
 have : (65536 : Nat) = 2 ^ (i % 16) * (2 * 2 ^ k) := by
  rw [show (65536 : Nat) = 2 ^ 16 by decide]
  conv => lhs; rw [hk]
  rw [Nat.pow_add, Nat.pow_add, Nat.pow_one]
 rw [this, Nat.mod_mul_right_div_self, Nat.mod_mul_right_mod]
theorem top_eq (a b : Nat) (ha : a < B) (hb : b < B) : a / 65536 ^ 16 = b / 65536 ^ 16 := by
 rw [← B_16, Nat.div_eq_of_lt ha, Nat.div_eq_of_lt hb]
theorem xGu (a i : Nat) : a / 65536 ^ i = 65536 * (a / 65536 ^ (i + 1)) + dig a i := by
 rw [xCf, Nat.pow_succ, ← Nat.div_div_eq_div_mul]; omega
theorem dig_less {a b i : Nat} (h : a / 65536 ^ (i + 1) = b / 65536 ^ (i + 1)) (hd : dig a i < dig b i) : cmpN a b = -1 := by
 have : a / 65536 ^ i < b / 65536 ^ i := by rw [xGu a i, xGu b i, h]; omega
 have l : a < b := Nat.lt_of_not_le fun q => by have := Nat.div_le_div_right (c := 65536 ^ i) q; omega
 rw [xEf, if_neg (by omega), if_pos l]
theorem dig_more {a b i : Nat} (h : a / 65536 ^ (i + 1) = b / 65536 ^ (i + 1)) (hd : dig b i < dig a i) : cmpN a b = 1 := by
 have : b / 65536 ^ i < a / 65536 ^ i := by rw [xGu a i, xGu b i, h]; omega
 have l : b < a := Nat.lt_of_not_le fun q => by have := Nat.div_le_div_right (c := 65536 ^ i) q; omega
 rw [xEf, if_neg (by omega), if_neg (by omega)]
theorem dig_same {a b i : Nat} (h : a / 65536 ^ (i + 1) = b / 65536 ^ (i + 1)) (h1 : ¬ dig a i < dig b i) (h2 : ¬ dig b i < dig a i) : a / 65536 ^ i = b / 65536 ^ i := by
 rw [xGu a i, xGu b i, h]; omega
theorem dig_end {a b : Nat} (h : a / 65536 ^ 0 = b / 65536 ^ 0) : cmpN a b = 0 := by
 rw [Nat.pow_zero, Nat.div_one, Nat.div_one] at h
 rw [xEf, if_pos h]
theorem cmp_top (a b : Nat) : ∀ k, a / 65536 ^ k = b / 65536 ^ k → ∃ N, N ≤ k ∧ (∀ j, N ≤ j → j < k → dig a j = dig b j) ∧ ((N = 0 ∧ cmpN a b = 0) ∨ ∃ M, N = M + 1 ∧ ((dig a M < dig b M ∧ cmpN a b = -1) ∨ (dig b M < dig a M ∧ cmpN a b = 1)))
  | 0, h => ⟨0, Nat.le_refl _, fun j _ h => absurd h (by omega), .inl ⟨rfl, dig_end h⟩⟩
  | k + 1, h => by
    by_cases h1 : dig a k < dig b k
    · exact ⟨k + 1, Nat.le_refl _, fun j h2 h3 => absurd h3 (by omega), .inr ⟨k, rfl, .inl ⟨h1, dig_less h h1⟩⟩⟩
    · by_cases h2 : dig b k < dig a k
      · exact ⟨k + 1, Nat.le_refl _, fun j h2 h3 => absurd h3 (by omega), .inr ⟨k, rfl, .inr ⟨h2, dig_more h h2⟩⟩⟩
      · obtain ⟨N, hN, hd, hc⟩ := cmp_top a b k (dig_same h h1 h2)
        refine ⟨N, by omega, fun j h3 h4 => ?_, hc⟩
        by_cases e : j = k
        · subst e; omega
        · exact hd j h3 (by omega)
noncomputable def accN : Nat → Nat → Nat → Nat → Nat := opq fun a b i k => (a % 65536 ^ i * b) % 65536 ^ (i + k) + dig a i * (b % 65536 ^ k) * 65536 ^ i
theorem xIo (a b i k : Nat) : accN a b i k = (a % 65536 ^ i * b) % 65536 ^ (i + k) + dig a i * (b % 65536 ^ k) * 65536 ^ i := by unfold accN; rw [xBs]
noncomputable def rowN : Nat → Nat → Nat → Nat := opq fun a b i => a % 65536 ^ i * b
theorem xFz (a b i : Nat) : rowN a b i = a % 65536 ^ i * b := by unfold rowN; rw [xBs]
theorem dig_low (x i j : Nat) (h : i < j) : dig (x % 65536 ^ j) i = dig x i := by
 rw [xCf, xCf]
 obtain ⟨k, hk⟩ : ∃ k, j = i + (1 + k) := ⟨j - i - 1, by omega⟩
 rw [hk, Nat.pow_add, Nat.mod_mul_right_div_self, Nat.pow_add, Nat.pow_one, Nat.mod_mul_right_mod]
theorem dig_add_high (x y i j : Nat) (h : i < j) : dig (x + 65536 ^ j * y) i = dig x i := by
 rw [xCf, xCf]
 obtain ⟨k, hk⟩ : ∃ k, j = i + (1 + k) := ⟨j - i - 1, by omega⟩
 rw [hk, Nat.pow_add, Nat.mul_assoc, Nat.add_mul_div_left _ _ (Nat.pow_pos (by decide)), Nat.pow_add, Nat.pow_one, Nat.mul_assoc, Nat.add_mul_mod_self_left]
theorem xGj {x i : Nat} (h : x < 65536 ^ i) : dig x i = 0 := by rw [xCf, Nat.div_eq_of_lt h]
theorem accN_zero (a b i : Nat) : accN a b i 0 = rowN a b i % 65536 ^ i := by
 rw [xIo, xFz, Nat.pow_zero, Nat.mod_one, Nat.mul_zero, Nat.zero_mul, Nat.add_zero, Nat.add_zero]
theorem accN_succ (a b i k : Nat) : accN a b i (k + 1) = accN a b i k + 65536 ^ (i + k) * (dig (rowN a b i) (i + k) + dig a i * dig b k) := by
 rw [xIo, xIo, xFz, xCf (a % 65536 ^ i * b), xCf b k, ← Nat.add_assoc i k 1, Nat.pow_succ, Nat.mod_mul, Nat.pow_succ 65536 k, Nat.mod_mul, Nat.pow_add]
 grind
theorem pow_p (i : Nat) : 0 < 65536 ^ i := Nat.pow_pos (by decide)
theorem accN_lt (a b i k : Nat) : accN a b i k < 65536 ^ (i + k + 1) := by
 rw [xIo]
 have h1 := Nat.mod_lt (a % 65536 ^ i * b) (pow_p (i + k))
 have h2 := Nat.mod_lt b (pow_p k)
 have h3 := xFy a i
 have h4 : dig a i * (b % 65536 ^ k) * 65536 ^ i ≤ 65535 * (65536 ^ k - 1) * 65536 ^ i := Nat.mul_le_mul_right _ (Nat.mul_le_mul (by omega) (by omega))
 have h5 : 65535 * (65536 ^ k - 1) * 65536 ^ i ≤ 65535 * 65536 ^ (i + k) := by
  rw [Nat.pow_add, Nat.mul_comm (65536 ^ i), ← Nat.mul_assoc]
  exact Nat.mul_le_mul_right _ (Nat.mul_le_mul_left _ (by omega))
 rw [Nat.pow_succ]
 omega
theorem mul_digs (a b i k : Nat) : dig (rowN a b i) (i + k) + dig a i * dig b k + accN a b i k / 65536 ^ (i + k) = accN a b i (k + 1) / 65536 ^ (i + k) ∧
  accN a b i k / 65536 ^ (i + k) < 65536 ∧ accN a b i (k + 1) / 65536 ^ (i + k) / 65536 = accN a b i (k + 1) / 65536 ^ (i + (k + 1)) ∧ accN a b i (k + 1) / 65536 ^ (i + k) % 65536 = dig (accN a b i (k + 1)) (i + k) := by
 refine ⟨?_, ?_, ?_, (xCf _ _).symm⟩
 ·rw [accN_succ, Nat.add_mul_div_left _ _ (pow_p _)]; omega
 ·have := accN_lt a b i k
  rw [Nat.pow_succ] at this
  exact Nat.div_lt_of_lt_mul this
 ·rw [Nat.div_div_eq_div_mul, ← Nat.pow_succ]; rfl
theorem rowN_lt {b : Nat} (hb : b < B) (a i : Nat) : rowN a b i < 65536 ^ (i + 16) := by
 rw [xFz, Nat.pow_add, ← B_16]
 have h := Nat.mod_lt a (pow_p i)
 by_cases h0 : b = 0
 ·subst h0; rw [Nat.mul_zero]; exact Nat.mul_pos (pow_p i) xEy
 ·exact Nat.mul_lt_mul_of_lt_of_lt h hb
theorem rowN_succ {b : Nat} (hb : b < B) (a i : Nat) : accN a b i 16 = rowN a b (i + 1) := by
 have h := rowN_lt hb a i
 rw [xFz] at h
 rw [xIo, xFz, Nat.mod_eq_of_lt h, ← B_16, Nat.mod_eq_of_lt hb, xCf, Nat.pow_succ, Nat.mod_mul]
 grind
theorem rowN_zero (a b : Nat) : rowN a b 0 = 0 := by rw [xFz, Nat.pow_zero, Nat.mod_one, Nat.zero_mul]
theorem rowN_16 {a : Nat} (ha : a < B) (b : Nat) : rowN a b 16 = a * b := by rw [xFz, ← B_16, Nat.mod_eq_of_lt ha]
noncomputable def memN : Nat → Nat → Nat → Nat → Nat → Nat := opq fun a b i k j => if j < i + k then dig (accN a b i k) j else dig (rowN a b i) j
theorem xGy (a b i k j : Nat) : memN a b i k j = if j < i + k then dig (accN a b i k) j else dig (rowN a b i) j := by unfold memN; rw [xBs]
theorem memN_start (a b i j : Nat) : memN a b i 0 j = dig (rowN a b i) j := by
 rw [xGy, Nat.add_zero, accN_zero]
 split
 ·exact dig_low _ _ _ (by omega)
 ·rfl
theorem memN_at (a b i k : Nat) : memN a b i k (i + k) = dig (rowN a b i) (i + k) := by rw [xGy, if_neg (by omega)]
theorem memN_set (a b i k : Nat) : memN a b i (k + 1) (i + k) = dig (accN a b i (k + 1)) (i + k) := by rw [xGy, if_pos (by omega)]
theorem memN_other (a b i k j : Nat) (h : j ≠ i + k) : memN a b i (k + 1) j = memN a b i k j := by
 rw [xGy, xGy]
 by_cases l : j < i + k
 ·rw [if_pos (by omega), if_pos l, accN_succ, dig_add_high _ _ _ _ l]
 ·rw [if_neg (by omega), if_neg l]
theorem row_top {b : Nat} (hb : b < B) (a i : Nat) : dig (rowN a b (i + 1)) (i + 16) = accN a b i 16 / 65536 ^ (i + 16) := by
 rw [← rowN_succ hb, xCf, Nat.mod_eq_of_lt]
 have := accN_lt a b i 16
 rw [Nat.pow_succ] at this
 exact Nat.div_lt_of_lt_mul this
theorem row_other {b : Nat} (hb : b < B) (a i j : Nat) (h : j ≠ i + 16) : dig (rowN a b (i + 1)) j = memN a b i 16 j := by
 rw [xGy]
 by_cases l : j < i + 16
 ·rw [if_pos l, rowN_succ hb]
 ·rw [if_neg l, xGj, xGj]
  ·exact Nat.lt_of_lt_of_le (rowN_lt hb a i) (Nat.pow_le_pow_right (by decide) (by omega))
  ·exact Nat.lt_of_lt_of_le (rowN_lt hb a (i + 1)) (Nat.pow_le_pow_right (by decide) (by omega))
theorem dig_half (x j : Nat) : dig x (16 + j) = dig (x / B) j := by
 rw [xCf, xCf, B_16, Nat.div_div_eq_div_mul, ← Nat.pow_add]
noncomputable def u64s (n : Nat) (w : Nat → Nat) : List Value := opq ((List.range n).map fun j => Value.int .u64 (w j : Int))
theorem xEv (n : Nat) (w : Nat → Nat) : u64s n w = (List.range n).map fun j => Value.int .u64 (w j : Int) := by unfold u64s; rw [xBs]
@[simp] theorem u64s_length (n : Nat) (w : Nat → Nat) : (u64s n w).length = n := by rw [xEv]; simp
theorem xEb {n : Nat} {w : Nat → Nat} {i : Nat} (h : i < n) : (u64s n w)[i]? = some (.int .u64 (w i : Int)) := by rw [xEv]; simp [h]
theorem u64s_set {n : Nat} {w v : Nat → Nat} {i x : Nat} (hx : v i = x) (h : ∀ j, j < n → j ≠ i → v j = w j) : (u64s n w).set i (.int .u64 (x : Int)) = u64s n v := by
 rw [xEv, xEv]
 refine List.ext_getElem? fun k => ?_
 rw [List.getElem?_set]
 simp only [List.length_map, List.length_range, List.getElem?_map]
 by_cases hk : k < n
 ·by_cases e : i = k
  ·subst e; simp [hk, hx]
  ·rw [if_neg e]; simp [List.getElem?_range hk, h k hk (Ne.symm e)]
 ·have : (List.range n)[k]? = none := by simp; omega
  by_cases e : i = k
  ·subst e; simp [hk]
  ·rw [if_neg e, this]; rfl
theorem xIe {n : Nat} {w v : Nat → Nat} (h : ∀ j, j < n → w j = v j) : u64s n w = u64s n v := by
 rw [xEv, xEv]
 refine List.map_congr_left fun j hj => ?_
 rw [h j (List.mem_range.1 hj)]
theorem xEg (n : Nat) (w : Nat → Nat) : (u64s n w).all (·.oneCell') = true := by
 rw [xEv]; simp [Value.oneCell']
end
section
attribute [local irreducible] Calls
instance rowT16 : RowT Tryz.prog 253 16 := .mk' (by kernel_rfl) (by kernel_rfl)
instance zeroT16 : xKf Tryz.prog 253 (u64s 16 fun _ => 0) := ⟨.agg (u64s 16 fun _ => 0).toArray, by rw [xEv]; kernel_rfl, rfl⟩
noncomputable def mixD (f g : Nat → Nat) (i : Nat) : List Value := u64s 16 fun j => if j < i then f j else g j
@[simp] theorem mixD_length (f g : Nat → Nat) (i : Nat) : (mixD f g i).length = 16 := u64s_length _ _
theorem mixD_all (f g : Nat → Nat) : mixD f g 16 = u64s 16 f := xIe fun j hj => if_pos hj
theorem mixD_at {f g : Nat → Nat} {i : Nat} (h : i < 16) : (mixD f g i)[i]? = some (.int .u64 (g i : Int)) := by
 unfold mixD; rw [xEb h, if_neg (by omega)]
theorem mixD_set {f g : Nat → Nat} {i x : Nat} (hx : f i = x) : (mixD f g i).set i (.int .u64 (x : Int)) = mixD f g (i + 1) := by
 unfold mixD
 refine u64s_set (by rw [if_pos (by omega), hx]) fun j _ hj => ?_
 by_cases h : j < i
 ·rw [if_pos h, if_pos (by omega)]
 ·rw [if_neg h, if_neg (by omega)]
theorem xCz (a : Nat) (w : World) : Calls Tryz.prog 198 #[num a] w fun e w' =>
  e = .returned (.agg (u64s 16 (dig a)).toArray) ∧ Below w.heap.size w w' := by
 have hR := Rep.init w
 go_enter Tryz.func198, Tryz.ntmps198
 go_wp2_with (first | (refine' aAq hR ?_; clear hR; intro blk w hR) | (refine' aBq hR ?_; clear hR; intro blk w hR))
 rename_i b1' _ b2' _ K0 k0
 refine' xBm (false :: false :: false :: false :: false :: true :: true :: true :: true :: true :: true :: true :: true :: true :: true :: true :: true :: true :: true :: true :: false :: []) (fun j l => l.set 4 (.int .i64 ((16 : Int) - (j : Int)))) (fun j => [(blk, .cells (mixD (dig a) (fun _ => 0) (16 - j)).toArray 253), (b2', .cells (u64s 16 fun _ => 0).toArray 253), (b1', .cells (nl a).toArray 24)]) 16 ?h0 ?hR ?hs ?he
 case hR => exact hR
 case h0 => exact xAf rfl rfl rfl
 case hs =>
  clear hR k0
  intro j tm w hj ht hR K hK
  repeat (first | (obtain ⟨x, tm', e, ht'⟩ := xAc ht; clear ht; subst e; have ht := ht'; clear ht') | (obtain ⟨tm', e, ht'⟩ := xAa ht; clear ht; subst e; have ht := ht'; clear ht'))
  obtain rfl := xAe ht
  clear ht
  obtain ⟨k, hk⟩ : ∃ k, 16 - (j + 1) = k := ⟨_, rfl⟩
  have e1 : (16 : Int) - ((j + 1 : Nat) : Int) = (k : Int) := by omega
  have e2 : (16 : Int) - (j : Int) = (k : Int) + 1 := by omega
  have e3 : 16 - j = k + 1 := by omega
  rw [hk] at hR
  simp only [e2, e3] at hK
  rw [e1]
  have k16 : k < 16 := by omega
  clear e1 e2 e3 hk hj
  have hset := mixD_set (f := dig a) (g := fun _ => 0) (i := k) rfl
  rw [← dig_wdt a k] at hset
  have hv := nl_at a (k / 4) (by omega)
  have l0 := xDz a (k / 4)
  have l1 := xEk a (k / 4)
  obtain ⟨x, hx⟩ : ∃ x, k / 4 = x := ⟨_, rfl⟩
  obtain ⟨y, hy⟩ : ∃ y, k % 4 = y := ⟨_, rfl⟩
  obtain ⟨s, hs⟩ : ∃ s, 16 * y = s := ⟨_, rfl⟩
  rw [hx, hy, hs] at hset
  rw [hx] at hv l0 l1
  have e1 : (k : Int) / 4 = (x : Int) := by omega
  have e2 : IntKind.i64.wrap (x : Int) = (x : Int) := by rw [IntKind.wrap_i64]; omega
  have e3 : (k : Int).tmod 4 = (y : Int) := by rw [Int.tmod_eq_emod_of_nonneg (by omega)]; omega
  have e4 : (k : Int) % 4 = (y : Int) := by omega
  have e5 : IntKind.i64.wrap (y : Int) = (y : Int) := by rw [IntKind.wrap_i64]; omega
  have e6 : IntKind.i64.wrap (16 * (y : Int)) = (s : Int) := by rw [IntKind.wrap_i64]; omega
  have e7 : (x : Int) < 4 := by omega
  have e8 : (s : Int) < 64 := by omega
  have e9 : 0 ≤ (x : Int) := by omega
  have e10 : 0 ≤ (y : Int) := by omega
  have e11 : 0 ≤ (s : Int) := by omega
  have e12 : x < 4 := by omega
  have g0 : 0 ≤ (k : Int) := by omega
  have g1 : (k : Int) < 16 := by omega
  clear hx hy hs
  go_wp2_with (first | (refine' aMq hR ?_) | (refine' aHq hR ?_; clear hR; intro w hR))
  exact hK.out _ _ (xAf rfl rfl rfl) hR
 case he =>
  clear hR
  intro tm w ht hR K
  simp only [Int.natCast_zero, Int.sub_zero] at ht
  simp only [Nat.sub_zero] at hR
  repeat (first | (obtain ⟨x, tm', e, ht'⟩ := xAc ht; clear ht; subst e; have ht := ht'; clear ht') | (obtain ⟨tm', e, ht'⟩ := xAa ht; clear ht; subst e; have ht := ht'; clear ht'))
  obtain rfl := xAe ht
  clear ht
  rw [mixD_all] at hR
  have o1 := xEg 16 (dig a)
  go_wp2_with (first | (refine' aFq hR ?_; clear hR; intro w hR; refine cutHere ?_) | (refine' aNq hR ?_))
  unfold Stop
  refine wpList_nil ?_
  simp only [Exit.then]
  rename_i Kz kz
  refine kz _ _ (wp_ret ?_)
  (refine' bodyPost_ret (xAq Tryz.results198 rfl (hR.loadAll (P := Tryz.prog) (ty := 253) ?hm ?hn)) rfl ⟨?_, hR.below⟩; (case hm => first | with_reducible assumption | repeat (first | exact .head _ | with_reducible assumption | apply mC)); (case hn => first | rfl | simp))
  rfl
section
variable {B0 : Nat} {w0 w : World} {L : List (Nat × Obj)}
theorem xKh (X b off cap : Nat) (l : List Value) (t : TypeId) (hm : (b, Obj.cells l.toArray t) ∈ L) (hl : ∀ j, j < 16 → l[off + j]? = some (.int .u64 (dig X j : Int))) (hR : Rep B0 w0 L w) :
  Calls Tryz.prog 199 #[.slice (some ⟨b, off, none⟩) 16 cap] w fun e w' => e = .returned (num X) ∧ Rep B0 w0 L w' := by
 replace hl := Held.mk hl
 go_enter Tryz.func199, Tryz.ntmps199
 go_wp2_with (refine' aBq hR ?_; clear hR; intro blk w hR)
 rename_i b2' _ K0 k0
 refine' xBm (false :: false :: false :: false :: false :: true :: true :: true :: true :: true :: true :: true :: true :: true :: true :: true :: true :: true :: true :: true :: true :: true :: true :: true :: true :: false :: []) (fun j l => l.set 4 (.int .i64 ((16 : Int) - (j : Int)))) (fun j => (blk, .cells (nl (lowN X (16 - j))).toArray 24) :: (b2', .cells (nl 0).toArray 24) :: L) 16 ?h0 ?hR ?hs ?he
 case hR =>
  show Rep _ _ ((_, .cells (nl (lowN X 0)).toArray _) :: _) _
  rw [lowN_zero, ← xDf]
  exact hR
 case h0 => exact xAf rfl rfl rfl
 case hs =>
  clear hR k0
  intro j tm w hj ht hR K hK
  repeat (first | (obtain ⟨x, tm', e, ht'⟩ := xAc ht; clear ht; subst e; have ht := ht'; clear ht') | (obtain ⟨tm', e, ht'⟩ := xAa ht; clear ht; subst e; have ht := ht'; clear ht'))
  obtain rfl := xAe ht
  clear ht
  obtain ⟨k, hk⟩ : ∃ k, 16 - (j + 1) = k := ⟨_, rfl⟩
  have e1 : (16 : Int) - ((j + 1 : Nat) : Int) = (k : Int) := by omega
  have e2 : (16 : Int) - (j : Int) = (k : Int) + 1 := by omega
  have e3 : 16 - j = k + 1 := by omega
  rw [hk] at hR
  simp only [e2, e3] at hK
  rw [e1]
  have k16 : k < 16 := by omega
  clear e1 e2 e3 hk hj
  have hset := nl_grow X k k16
  have d0 := hl.out k k16
  have d1 := xFy X k
  have hv := nl_at (lowN X k) (k / 4) (by omega)
  have l0 := xDz (lowN X k) (k / 4)
  have l1 := xEk (lowN X k) (k / 4)
  obtain ⟨x, hx⟩ : ∃ x, k / 4 = x := ⟨_, rfl⟩
  obtain ⟨y, hy⟩ : ∃ y, k % 4 = y := ⟨_, rfl⟩
  obtain ⟨s, hs⟩ : ∃ s, 16 * y = s := ⟨_, rfl⟩
  rw [hx, hy, hs] at hset
  rw [hx] at hv l0 l1
  have e1 : (k : Int) / 4 = (x : Int) := by omega
  have e2 : IntKind.i64.wrap (x : Int) = (x : Int) := by rw [IntKind.wrap_i64]; omega
  have e3 : (k : Int).tmod 4 = (y : Int) := by rw [Int.tmod_eq_emod_of_nonneg (by omega)]; omega
  have e4 : (k : Int) % 4 = (y : Int) := by omega
  have e5 : IntKind.i64.wrap (y : Int) = (y : Int) := by rw [IntKind.wrap_i64]; omega
  have e6 : IntKind.i64.wrap (16 * (y : Int)) = (s : Int) := by rw [IntKind.wrap_i64]; omega
  have e7 : (x : Int) < 4 := by omega
  have e8 : (s : Int) < 64 := by omega
  have e9 : 0 ≤ (x : Int) := by omega
  have e10 : 0 ≤ (y : Int) := by omega
  have e11 : 0 ≤ (s : Int) := by omega
  have e12 : x < 4 := by omega
  have g0 : 0 ≤ (k : Int) := by omega
  have g1 : (k : Int) < 16 := by omega
  generalize dig X k = d at *
  generalize lowN X k = Y at *
  clear hx hy hs
  go_wp2_with (fail)
  refine xAd hR [0, 0, 0, 0, 0, 0, 0, 0, 0, 0, 0, 0, 0, 0, 0, 0, 2] [] xBd (by kernel_rfl) rfl rfl (fun K hK => ?_)
  clear hR
  repeat ((first | (refine xAp ?_) | (refine' xAj (by decide) rfl (.inl rfl) rfl ?ha ?_) | (refine' aXq ?ha ?_) | ((first | refine' xAg (by decide) rfl rfl rfl rfl (fun w => ?hq) ?ha ?_ | refine' xAm (by decide) rfl rfl rfl rfl (fun w => ?hq) ?ha ?_); (case hq => go_simp; try rfl))); try (case ha => simp only [kP, kQ, kA, kB]; try rfl))
  refine xAo (hK _ _ ?_)
  clear hK K
  refine xAr (fun Q hQ => ?_)
  try simp only [List.nil_append, List.cons_append]
  repeat ((refine' aDq ?hk ?ha ?_); (case hk => intro p hp; first | exact absurd hp List.not_mem_nil | (obtain rfl := List.mem_singleton.1 hp; repeat (first | exact List.Mem.head _ | with_reducible assumption | apply mC))); (case ha => simp only [kP, kQ, kA, kB]; try rfl))
  refine xAs (fun w hR => hQ _ _ ?_)
  clear hQ Q
  go_wp2_with (fail)
  exact hK.out _ _ (xAf rfl rfl rfl) hR
 case he =>
  clear hR
  intro tm w ht hR K
  simp only [Int.natCast_zero, Int.sub_zero] at ht
  simp only [Nat.sub_zero] at hR
  repeat (first | (obtain ⟨x, tm', e, ht'⟩ := xAc ht; clear ht; subst e; have ht := ht'; clear ht') | (obtain ⟨tm', e, ht'⟩ := xAa ht; clear ht; subst e; have ht := ht'; clear ht'))
  obtain rfl := xAe ht
  clear ht
  rw [lowN_16, nl_mod] at hR
  go_wp2_with (first | (refine' aNq hR ?_) | (refine' aFq hR ?_; clear hR; intro w hR))
  (refine' bodyPost_ret (xAq Tryz.results199 rfl (hR.loadAll (P := Tryz.prog) (ty := 24) ?hm ?hn)) rfl ⟨rfl, hR.weaken (List.sublist_append_right [_, _] L)⟩; (case hm => exact .tail _ (.head _)); (case hn => rfl))
theorem of_row (X b : Nat) (t : TypeId) (hm : (b, Obj.cells (u64s 16 (dig X)).toArray t) ∈ L) (hR : Rep B0 w0 L w) :
  Calls Tryz.prog 199 #[.slice (some ⟨b, 0, none⟩) 16 16] w fun e w' => e = .returned (num X) ∧ Rep B0 w0 L w' :=
 xKh X b 0 16 _ t hm (fun j hj => by rw [Nat.zero_add]; exact xEb hj) hR
end
theorem xCw (n : Nat) (hn : n < 18446744073709551616) (w : World) : Calls Tryz.prog 131 #[.int .u64 (n : Int)] w fun e w' =>
  e = .returned (num n) ∧ Below w.heap.size w w' := by
 have hR := Rep.init w
 go_enter Tryz.func131, Tryz.ntmps131
 go_wp2_with (first | (refine' aBq hR ?_; clear hR; intro blk w hR) | (refine' aNq hR ?_) | (refine' aFq hR ?_; clear hR; intro w hR) | (refine' aHq hR ?_; clear hR; intro w hR))
 (refine' bodyPost_ret (xAq Tryz.results131 rfl (hR.loadAll (P := Tryz.prog) (ty := 24) ?hm ?hn)) rfl ⟨?_, hR.below⟩; (case hm => first | with_reducible assumption | repeat (first | exact .head _ | with_reducible assumption | apply mC)); (case hn => first | rfl | simp))
 show Ending.returned (.agg (List.toArray _)) = _
 unfold num
 rw [nl_small n hn]
end
section
attribute [local irreducible] Calls
theorem refAdd_any (a b : Nat) (ha : a < B) (hb : b < B) (w : World) : Calls Tryz.prog 196 #[num a, num b] w fun e w' =>
  e = .returned (.tuple #[num (a + b), .int .u64 (((a + b) / B : Nat) : Int)]) ∧ Below w.heap.size w w' := by
 have hR := Rep.init w
 have oa := xEg 16 (dig a)
 have ob := xEg 16 (dig b)
 go_enter Tryz.func196, Tryz.ntmps196
 go_wp2_with (first | (refine' aAq hR ?_; clear hR; intro blk w hR) | (refine' aBq hR ?_; clear hR; intro blk w hR) | (refine' aNq hR ?_) | (refine' aFq hR ?_; clear hR; intro w hR) | (go_at_call 198; refine (xCz a _).mono ?_; rintro e w ⟨rfl, hb⟩; replace hR := hR.call hb; clear hb) | (go_at_call 198; refine (xCz b _).mono ?_; rintro e w ⟨rfl, hb⟩; replace hR := hR.call hb; clear hb))
 rename_i b1' _ b2' _ b3' _ _ b4' _ _ _ _ K0 k0
 clear oa ob
 refine' xBm (false :: false :: false :: false :: false :: false :: false :: false :: false :: false :: true :: false :: false :: false :: false :: true :: true :: true :: true :: true :: true :: true :: true :: true :: true :: true :: true :: true :: true :: true :: true :: true :: true :: true :: false :: false :: false :: []) (fun j l => (l.set 8 (.int .u64 (carN a b (16 - j) : Int))).set 9 (.int .i64 ((16 : Int) - (j : Int)))) (fun j => [(blk, .cells (u64s 16 (dig b)).toArray 253), (b4', .cells (mixD (dig (a + b)) (dig a) (16 - j)).toArray 253), (b3', .cells (nl 0).toArray 24), (b2', .cells (nl b).toArray 24), (b1', .cells (nl a).toArray 24)]) 16 ?h0 ?hR ?hs ?he
 case hR =>
  rw [← xDf]
  exact hR
 case h0 =>
  simp only [Nat.sub_self, carN_zero]
  exact xAf rfl rfl rfl
 case hs =>
  clear hR k0
  intro j tm w hj ht hR K hK
  repeat (first | (obtain ⟨x, tm', e, ht'⟩ := xAc ht; clear ht; subst e; have ht := ht'; clear ht') | (obtain ⟨tm', e, ht'⟩ := xAa ht; clear ht; subst e; have ht := ht'; clear ht'))
  obtain rfl := xAe ht
  clear ht
  obtain ⟨k, hk⟩ : ∃ k, 16 - (j + 1) = k := ⟨_, rfl⟩
  have e1 : (16 : Int) - ((j + 1 : Nat) : Int) = (k : Int) := by omega
  have e2 : (16 : Int) - (j : Int) = (k : Int) + 1 := by omega
  have e3 : 16 - j = k + 1 := by omega
  rw [hk] at hR
  simp only [e2, e3] at hK
  rw [e1, hk]
  have k16 : k < 16 := by omega
  clear e1 e2 e3 hk hj
  obtain ⟨q1, q2⟩ := add_digs a b k
  have hset := mixD_set (f := dig (a + b)) (g := dig a) (i := k) rfl
  have da := mixD_at (f := dig (a + b)) (g := dig a) k16
  have db := xEb (w := dig b) k16
  have la := xFy a k
  have lb := xFy b k
  have lc := carN_le a b k
  rw [← q1] at hset
  rw [← q2] at hK
  clear q1 q2
  generalize dig a k = x at *
  generalize dig b k = y at *
  generalize carN a b k = c at *
  obtain ⟨s, hs⟩ : ∃ s, x + y = s := ⟨_, rfl⟩
  obtain ⟨n, hn⟩ : ∃ n, s + c = n := ⟨_, rfl⟩
  rw [hs, hn] at hset hK
  have e1 : IntKind.u64.wrap ((x : Int) + (y : Int)) = (s : Int) := by rw [IntKind.wrap_u64]; omega
  have e2 : IntKind.u64.wrap ((s : Int) + (c : Int)) = (n : Int) := by rw [IntKind.wrap_u64]; omega
  have e3 : (n : Int).tmod 65536 = ((n % 65536 : Nat) : Int) := by rw [Int.tmod_eq_emod_of_nonneg (by omega)]; omega
  have e4 : (n : Int) / 65536 = ((n / 65536 : Nat) : Int) := by omega
  have e5 : IntKind.u64.wrap ((n / 65536 : Nat) : Int) = ((n / 65536 : Nat) : Int) := by rw [IntKind.wrap_u64]; omega
  have e6 : 0 ≤ (n : Int) := by omega
  generalize n % 65536 = d at *
  generalize n / 65536 = c' at *
  have g0 : 0 ≤ (k : Int) := by omega
  have g1 : (k : Int) < 16 := by omega
  clear hs hn la lb lc
  go_wp2_with (fail)
  refine xAd hR [0, 0, 0, 0, 0, 0, 0, 0, 0, 2] [] xBd (by kernel_rfl) rfl rfl (fun K hK => ?_)
  clear hR
  repeat ((first | (refine xAp ?_) | (refine' xAj (by decide) rfl (.inl rfl) rfl ?ha ?_) | (refine' aXq ?ha ?_) | ((first | refine' xAg (by decide) rfl rfl rfl rfl (fun w => ?hq) ?ha ?_ | refine' xAm (by decide) rfl rfl rfl rfl (fun w => ?hq) ?ha ?_); (case hq => go_simp; try rfl))); try (case ha => simp only [kP, kQ, kA, kB]; try rfl))
  refine xAo (hK _ _ ?_)
  clear hK K
  refine xAr (fun Q hQ => ?_)
  try simp only [List.nil_append, List.cons_append]
  repeat ((refine' xBf rfl (.inr rfl) rfl ?hk ?ha ?_); (case hk => intro p hp; first | exact absurd hp List.not_mem_nil | (obtain rfl := List.mem_singleton.1 hp; repeat (first | exact List.Mem.head _ | with_reducible assumption | apply mC))); (case ha => simp only [kP, kQ, kA, kB]; try rfl))
  refine xAs (fun w hR => hQ _ _ ?_)
  clear hQ Q
  go_wp2_with (refine' aHq hR ?_; clear hR; intro w hR)
  exact hK.out _ _ (xAf rfl rfl rfl) hR
 case he =>
  clear hR
  intro tm w ht hR K
  simp only [Int.natCast_zero, Int.sub_zero] at ht
  simp only [Nat.sub_zero] at hR ht
  repeat (first | (obtain ⟨x, tm', e, ht'⟩ := xAc ht; clear ht; subst e; have ht := ht'; clear ht') | (obtain ⟨tm', e, ht'⟩ := xAa ht; clear ht; subst e; have ht := ht'; clear ht'))
  obtain rfl := xAe ht
  clear ht
  rw [mixD_all] at hR
  rw [carN_16 ha hb]
  go_wp2_with (first | (refine' aFq hR ?_; clear hR; intro w hR) | (go_at_call 199; refine (of_row _ b4' _ (mT _ (List.Mem.head _)) hR).mono ?_; clear hR; rintro e w ⟨rfl, hR⟩))
  (refine' bodyPost_ret (xAh Tryz.results196 rfl (hR.loadAll (P := Tryz.prog) (ty := 24) ?hm ?hn)) rfl ⟨?_, hR.below⟩; (case hm => first | with_reducible assumption | repeat (first | exact .head _ | with_reducible assumption | apply mC)); (case hn => first | rfl | simp))
  rfl
theorem refSub_any (a b : Nat) (ha : a < B) (hb : b < B) (w : World) : Calls Tryz.prog 132 #[num a, num b] w fun e w' =>
  e = .returned (.tuple #[num (a + B - b), .int .u64 (bor a b)]) ∧ Below w.heap.size w w' := by
 have hR := Rep.init w
 have oa := xEg 16 (dig a)
 have ob := xEg 16 (dig b)
 go_enter Tryz.func132, Tryz.ntmps132
 go_wp2_with (first | (refine' aAq hR ?_; clear hR; intro blk w hR) | (refine' aBq hR ?_; clear hR; intro blk w hR) | (refine' aNq hR ?_) | (refine' aFq hR ?_; clear hR; intro w hR) | (go_at_call 198; refine (xCz a _).mono ?_; rintro e w ⟨rfl, hb⟩; replace hR := hR.call hb; clear hb) | (go_at_call 198; refine (xCz b _).mono ?_; rintro e w ⟨rfl, hb⟩; replace hR := hR.call hb; clear hb))
 rename_i b1' _ b2' _ b3' _ _ b4' _ _ _ _ K0 k0
 clear oa ob
 refine' xBm (false :: false :: false :: false :: false :: false :: false :: false :: false :: false :: true :: false :: false :: false :: false :: true :: true :: true :: true :: true :: true :: true :: true :: true :: true :: true :: true :: true :: true :: true :: true :: true :: true :: true :: true :: true :: false :: false :: false :: []) (fun j l => (l.set 8 (.int .u64 (carN (a + B - b) b (16 - j) : Int))).set 9 (.int .i64 ((16 : Int) - (j : Int)))) (fun j => [(blk, .cells (u64s 16 (dig b)).toArray 253), (b4', .cells (mixD (dig (a + B - b)) (dig a) (16 - j)).toArray 253), (b3', .cells (nl 0).toArray 24), (b2', .cells (nl b).toArray 24), (b1', .cells (nl a).toArray 24)]) 16 ?h0 ?hR ?hs ?he
 case hR =>
  rw [← xDf]
  exact hR
 case h0 =>
  simp only [Nat.sub_self, carN_zero]
  exact xAf rfl rfl rfl
 case hs =>
  clear hR k0
  intro j tm w hj ht hR K hK
  repeat (first | (obtain ⟨x, tm', e, ht'⟩ := xAc ht; clear ht; subst e; have ht := ht'; clear ht') | (obtain ⟨tm', e, ht'⟩ := xAa ht; clear ht; subst e; have ht := ht'; clear ht'))
  obtain rfl := xAe ht
  clear ht
  obtain ⟨k, hk⟩ : ∃ k, 16 - (j + 1) = k := ⟨_, rfl⟩
  have e1 : (16 : Int) - ((j + 1 : Nat) : Int) = (k : Int) := by omega
  have e2 : (16 : Int) - (j : Int) = (k : Int) + 1 := by omega
  have e3 : 16 - j = k + 1 := by omega
  rw [hk] at hR
  simp only [e2, e3] at hK
  rw [e1, hk]
  have k16 : k < 16 := by omega
  clear e1 e2 e3 hk hj
  obtain ⟨q1, q2, q3, q4⟩ := sub_digs a b k hb k16
  have hset := mixD_set (f := dig (a + B - b)) (g := dig a) (i := k) rfl
  have da := mixD_at (f := dig (a + B - b)) (g := dig a) k16
  have db := xEb (w := dig b) k16
  have la := xFy a k
  have lb := xFy b k
  have lc := carN_le (a + B - b) b k
  rw [← q1] at hset
  rw [← q2] at hK
  clear q1 q2
  generalize dig a k = x at *
  generalize dig b k = y at *
  generalize carN (a + B - b) b k = c at *
  obtain ⟨s, hs⟩ : ∃ s, x + 65536 = s := ⟨_, rfl⟩
  obtain ⟨t, ht⟩ : ∃ t, s - y = t := ⟨_, rfl⟩
  obtain ⟨n, hn⟩ : ∃ n, t - c = n := ⟨_, rfl⟩
  rw [hs, ht, hn] at hset hK
  rw [hs, ht, hn] at q4
  have e1 : IntKind.u64.wrap ((x : Int) + 65536) = (s : Int) := by rw [IntKind.wrap_u64]; omega
  have e2 : IntKind.u64.wrap ((s : Int) - (y : Int)) = (t : Int) := by rw [IntKind.wrap_u64]; omega
  have e2' : IntKind.u64.wrap ((t : Int) - (c : Int)) = (n : Int) := by rw [IntKind.wrap_u64]; omega
  have e3 : (n : Int).tmod 65536 = ((n % 65536 : Nat) : Int) := by rw [Int.tmod_eq_emod_of_nonneg (by omega)]; omega
  have e4 : (n : Int) / 65536 = ((n / 65536 : Nat) : Int) := by omega
  have e5 : IntKind.u64.wrap ((n / 65536 : Nat) : Int) = ((n / 65536 : Nat) : Int) := by rw [IntKind.wrap_u64]; omega
  have e7 : IntKind.u64.wrap (1 - ((n / 65536 : Nat) : Int)) = ((1 - n / 65536 : Nat) : Int) := by rw [IntKind.wrap_u64]; omega
  have e6 : 0 ≤ (n : Int) := by omega
  generalize 1 - n / 65536 = c'' at *
  generalize n % 65536 = d at *
  generalize n / 65536 = c' at *
  have g0 : 0 ≤ (k : Int) := by omega
  have g1 : (k : Int) < 16 := by omega
  clear hs ht hn la lb lc q3 q4
  go_wp2_with (fail)
  refine xAd hR [0, 0, 0, 0, 0, 0, 0, 0, 0, 0, 2] [] xBd (by kernel_rfl) rfl rfl (fun K hK => ?_)
  clear hR
  repeat ((first | (refine xAp ?_) | (refine' xAj (by decide) rfl (.inl rfl) rfl ?ha ?_) | (refine' aXq ?ha ?_) | ((first | refine' xAg (by decide) rfl rfl rfl rfl (fun w => ?hq) ?ha ?_ | refine' xAm (by decide) rfl rfl rfl rfl (fun w => ?hq) ?ha ?_); (case hq => go_simp; try rfl))); try (case ha => simp only [kP, kQ, kA, kB]; try rfl))
  refine xAo (hK _ _ ?_)
  clear hK K
  refine xAr (fun Q hQ => ?_)
  try simp only [List.nil_append, List.cons_append]
  repeat ((refine' xBf rfl (.inr rfl) rfl ?hk ?ha ?_); (case hk => intro p hp; first | exact absurd hp List.not_mem_nil | (obtain rfl := List.mem_singleton.1 hp; repeat (first | exact List.Mem.head _ | with_reducible assumption | apply mC))); (case ha => simp only [kP, kQ, kA, kB]; try rfl))
  refine xAs (fun w hR => hQ _ _ ?_)
  clear hQ Q
  go_wp2_with (refine' aHq hR ?_; clear hR; intro w hR)
  exact hK.out _ _ (xAf rfl rfl rfl) hR
 case he =>
  clear hR
  intro tm w ht hR K
  simp only [Int.natCast_zero, Int.sub_zero] at ht
  simp only [Nat.sub_zero] at hR ht
  repeat (first | (obtain ⟨x, tm', e, ht'⟩ := xAc ht; clear ht; subst e; have ht := ht'; clear ht') | (obtain ⟨tm', e, ht'⟩ := xAa ht; clear ht; subst e; have ht := ht'; clear ht'))
  obtain rfl := xAe ht
  clear ht
  rw [mixD_all] at hR
  rw [sub_car ha hb]
  go_wp2_with (first | (refine' aFq hR ?_; clear hR; intro w hR) | (go_at_call 199; refine (of_row _ b4' _ (mT _ (List.Mem.head _)) hR).mono ?_; clear hR; rintro e w ⟨rfl, hR⟩))
  (refine' bodyPost_ret (xAh Tryz.results132 rfl (hR.loadAll (P := Tryz.prog) (ty := 24) ?hm ?hn)) rfl ⟨?_, hR.below⟩; (case hm => first | with_reducible assumption | repeat (first | exact .head _ | with_reducible assumption | apply mC)); (case hn => first | rfl | simp))
  rfl
end
section
attribute [local irreducible] Calls
theorem refCmp_any (a b : Nat) (ha : a < B) (hb : b < B) (w : World) : Calls Tryz.prog 185 #[num a, num b] w fun e w' =>
  e = .returned (.int .i64 (cmpN a b)) ∧ Below w.heap.size w w' := by
 have hR := Rep.init w
 have oa := xEg 16 (dig a)
 have ob := xEg 16 (dig b)
 obtain ⟨N, hN, hsame, hend⟩ := cmp_top a b 16 (top_eq a b ha hb)
 obtain ⟨c, hcc⟩ : ∃ c, cmpN a b = c := ⟨_, rfl⟩
 rw [hcc] at hend ⊢
 clear hcc
 replace hsame := Held.mk hsame
 replace hend := Held.mk hend
 go_enter Tryz.func185, Tryz.ntmps185
 go_wp2_with (first | (refine' aAq hR ?_; clear hR; intro blk w hR) | (refine' aBq hR ?_; clear hR; intro blk w hR) | (refine' aNq hR ?_) | (refine' aFq hR ?_; clear hR; intro w hR) | (go_at_call 198; refine (xCz a _).mono ?_; rintro e w ⟨rfl, hb⟩; replace hR := hR.call hb; clear hb) | (go_at_call 198; refine (xCz b _).mono ?_; rintro e w ⟨rfl, hb⟩; replace hR := hR.call hb; clear hb))
 rename_i b1' _ b2' _ _ b4' _ _ _ _ K0 k0
 clear oa ob
 refine' xBm (false :: false :: false :: false :: false :: false :: false :: false :: false :: false :: false :: false :: true :: true :: true :: true :: true :: true :: true :: true :: true :: true :: true :: true :: true :: true :: true :: true :: true :: true :: []) (fun j l => l.set 7 (.int .i64 ((N : Int) + (j : Int) - 1))) (fun j => [(blk, .cells (u64s 16 (dig b)).toArray 253), (b4', .cells (u64s 16 (dig a)).toArray 253), (b2', .cells (nl b).toArray 24), (b1', .cells (nl a).toArray 24)]) (16 - N) ?h0 ?hR ?hs ?he
 case hR =>
  exact hR
 case h0 =>
  rw [show (N : Int) + ((16 - N : Nat) : Int) - 1 = 15 by omega]
  exact xAf rfl rfl rfl
 case hs =>
  clear hR k0
  intro j tm w hj ht hR K hK
  repeat (first | (obtain ⟨x, tm', e, ht'⟩ := xAc ht; clear ht; subst e; have ht := ht'; clear ht') | (obtain ⟨tm', e, ht'⟩ := xAa ht; clear ht; subst e; have ht := ht'; clear ht'))
  obtain rfl := xAe ht
  clear ht
  obtain ⟨k, hk⟩ : ∃ k, N + j = k := ⟨_, rfl⟩
  have e1 : (N : Int) + ((j + 1 : Nat) : Int) - 1 = (k : Int) := by omega
  have e2 : (N : Int) + (j : Int) - 1 = (k : Int) - 1 := by omega
  simp only [e2] at hK
  rw [e1]
  have k16 : k < 16 := by omega
  have heq := hsame.out k (by omega) k16
  clear e1 e2 hk hj
  have da := xEb (w := dig a) k16
  have db := xEb (w := dig b) k16
  rw [heq] at da
  generalize dig b k = y at *
  clear heq
  have g0 : 0 ≤ (k : Int) := by omega
  have g1 : (k : Int) < 16 := by omega
  go_wp2_with (fail)
  refine xAd hR [0, 0, 0, 0, 0, 0, 0] [] xBd (by kernel_rfl) rfl rfl (fun K hK => ?_)
  clear hR
  repeat ((first | (refine' xAj (by decide) rfl (.inl rfl) rfl ?ha ?_) | (refine' aXq ?ha ?_) | ((first | refine' xAg (by decide) rfl rfl rfl rfl (fun w => ?hq) ?ha ?_ | refine' xAm (by decide) rfl rfl rfl rfl (fun w => ?hq) ?ha ?_); (case hq => go_simp; try rfl))); try (case ha => simp only [kP, kQ, kA, kB]; try rfl))
  refine xAo (hK _ _ ?_)
  clear hK K
  refine xAr (fun Q hQ => ?_)
  try simp only [List.nil_append, List.cons_append]
  repeat ((fail); (case hk => intro p hp; first | exact absurd hp List.not_mem_nil | (obtain rfl := List.mem_singleton.1 hp; repeat (first | exact List.Mem.head _ | with_reducible assumption | apply mC))); (case ha => simp only [kP, kQ, kA, kB]; try rfl))
  refine xAs (fun w hR => hQ _ _ ?_)
  clear hQ Q
  go_wp2_with (fail)
  refine xAd hR [0, 0, 0, 0, 0, 0, 0] [] xBd (by kernel_rfl) rfl rfl (fun K hK => ?_)
  clear hR
  repeat ((first | (refine' xAj (by decide) rfl (.inl rfl) rfl ?ha ?_) | (refine' aXq ?ha ?_) | ((first | refine' xAg (by decide) rfl rfl rfl rfl (fun w => ?hq) ?ha ?_ | refine' xAm (by decide) rfl rfl rfl rfl (fun w => ?hq) ?ha ?_); (case hq => go_simp; try rfl))); try (case ha => simp only [kP, kQ, kA, kB]; try rfl))
  refine xAo (hK _ _ ?_)
  clear hK K
  refine xAr (fun Q hQ => ?_)
  try simp only [List.nil_append, List.cons_append]
  repeat ((fail); (case hk => intro p hp; first | exact absurd hp List.not_mem_nil | (obtain rfl := List.mem_singleton.1 hp; repeat (first | exact List.Mem.head _ | with_reducible assumption | apply mC))); (case ha => simp only [kP, kQ, kA, kB]; try rfl))
  refine xAs (fun w hR => hQ _ _ ?_)
  clear hQ Q
  go_wp2_with (fail)
  exact hK.out _ _ (xAf rfl rfl rfl) hR
 case he =>
  clear hR
  intro tm w ht hR K
  rcases hend.out with ⟨rfl, hc⟩ | ⟨M, rfl, h⟩
  ·subst hc
   simp only [Int.natCast_zero, Int.add_zero, Int.zero_sub] at ht
   repeat (first | (obtain ⟨x, tm', e, ht'⟩ := xAc ht; clear ht; subst e; have ht := ht'; clear ht') | (obtain ⟨tm', e, ht'⟩ := xAa ht; clear ht; subst e; have ht := ht'; clear ht'))
   obtain rfl := xAe ht
   clear ht
   clear hend hsame
   go_wp2_with (fail)
   go_ret
   exact ⟨rfl, hR.below⟩
  ·rw [show ((M + 1 : Nat) : Int) + ((0 : Nat) : Int) - 1 = (M : Int) by omega] at ht
   repeat (first | (obtain ⟨x, tm', e, ht'⟩ := xAc ht; clear ht; subst e; have ht := ht'; clear ht') | (obtain ⟨tm', e, ht'⟩ := xAa ht; clear ht; subst e; have ht := ht'; clear ht'))
   obtain rfl := xAe ht
   clear ht
   have m16 : M < 16 := by omega
   clear hend hsame hN
   have da := xEb (w := dig a) m16
   have db := xEb (w := dig b) m16
   generalize dig a M = x at *
   generalize dig b M = y at *
   have g0 : 0 ≤ (M : Int) := by omega
   have g1 : (M : Int) < 16 := by omega
   rcases h with ⟨hxy, hc⟩ | ⟨hxy, hc⟩
   ·subst hc
    have g2 : (x : Int) < (y : Int) := by omega
    go_wp2_with (fail)
    refine xAd hR [0, 0, 0, 0, 0, 0, 0] [] xBd (by kernel_rfl) rfl rfl (fun K hK => ?_)
    clear hR
    repeat ((first | (refine' xAj (by decide) rfl (.inl rfl) rfl ?ha ?_) | (refine' aXq ?ha ?_) | ((first | refine' xAg (by decide) rfl rfl rfl rfl (fun w => ?hq) ?ha ?_ | refine' xAm (by decide) rfl rfl rfl rfl (fun w => ?hq) ?ha ?_); (case hq => go_simp; try rfl))); try (case ha => simp only [kP, kQ, kA, kB]; try rfl))
    refine xAo (hK _ _ ?_)
    clear hK K
    refine xAr (fun Q hQ => ?_)
    try simp only [List.nil_append, List.cons_append]
    repeat ((fail); (case hk => intro p hp; first | exact absurd hp List.not_mem_nil | (obtain rfl := List.mem_singleton.1 hp; repeat (first | exact List.Mem.head _ | with_reducible assumption | apply mC))); (case ha => simp only [kP, kQ, kA, kB]; try rfl))
    refine xAs (fun w hR => hQ _ _ ?_)
    clear hQ Q
    go_wp2_with (fail)
    go_ret
    exact ⟨rfl, hR.below⟩
   ·subst hc
    have g2 : ¬ (x : Int) < (y : Int) := by omega
    have g3 : (y : Int) < (x : Int) := by omega
    go_wp2_with (fail)
    refine xAd hR [0, 0, 0, 0, 0, 0, 0] [] xBd (by kernel_rfl) rfl rfl (fun K hK => ?_)
    clear hR
    repeat ((first | (refine' xAj (by decide) rfl (.inl rfl) rfl ?ha ?_) | (refine' aXq ?ha ?_) | ((first | refine' xAg (by decide) rfl rfl rfl rfl (fun w => ?hq) ?ha ?_ | refine' xAm (by decide) rfl rfl rfl rfl (fun w => ?hq) ?ha ?_); (case hq => go_simp; try rfl))); try (case ha => simp only [kP, kQ, kA, kB]; try rfl))
    refine xAo (hK _ _ ?_)
    clear hK K
    refine xAr (fun Q hQ => ?_)
    try simp only [List.nil_append, List.cons_append]
    repeat ((fail); (case hk => intro p hp; first | exact absurd hp List.not_mem_nil | (obtain rfl := List.mem_singleton.1 hp; repeat (first | exact List.Mem.head _ | with_reducible assumption | apply mC))); (case ha => simp only [kP, kQ, kA, kB]; try rfl))
    refine xAs (fun w hR => hQ _ _ ?_)
    clear hQ Q
    go_wp2_with (fail)
    refine xAd hR [0, 0, 0, 0, 0, 0, 0] [] xBd (by kernel_rfl) rfl rfl (fun K hK => ?_)
    clear hR
    repeat ((first | (refine' xAj (by decide) rfl (.inl rfl) rfl ?ha ?_) | (refine' aXq ?ha ?_) | ((first | refine' xAg (by decide) rfl rfl rfl rfl (fun w => ?hq) ?ha ?_ | refine' xAm (by decide) rfl rfl rfl rfl (fun w => ?hq) ?ha ?_); (case hq => go_simp; try rfl))); try (case ha => simp only [kP, kQ, kA, kB]; try rfl))
    refine xAo (hK _ _ ?_)
    clear hK K
    refine xAr (fun Q hQ => ?_)
    try simp only [List.nil_append, List.cons_append]
    repeat ((fail); (case hk => intro p hp; first | exact absurd hp List.not_mem_nil | (obtain rfl := List.mem_singleton.1 hp; repeat (first | exact List.Mem.head _ | with_reducible assumption | apply mC))); (case ha => simp only [kP, kQ, kA, kB]; try rfl))
    refine xAs (fun w hR => hQ _ _ ?_)
    clear hQ Q
    go_wp2_with (fail)
    go_ret
    exact ⟨rfl, hR.below⟩
theorem bit_dign (a k : Nat) (hk : k < 256) : bitN a k = ((dig a (k / 16) / 2 ^ (k % 16) % 2 : Nat) : Int) := by
 rw [xDj a k hk, bit_dig]
theorem xEl (a : Nat) (i : Int) (ha : a < B) (w : World) : Calls Tryz.prog 197 #[num a, .int .i64 i] w fun e w' =>
  e = .returned (.int .u64 (bitN a i)) ∧ Below w.heap.size w w' := by
 have hR := Rep.init w
 by_cases h : i < 0 ∨ 256 ≤ i
 ·have hb : bitN a i = 0 := by rw [xIh, if_pos h]
  rw [hb]
  go_enter Tryz.func197, Tryz.ntmps197
  go_wp2_with (refine' aAq hR ?_; clear hR; intro blk w hR)
  all_goals first | (exfalso; omega; done) | skip
  all_goals go_ret
  all_goals exact ⟨rfl, hR.below⟩
 ·obtain ⟨k, rfl⟩ := Int.eq_ofNat_of_zero_le (show 0 ≤ i by omega)
  rw [bit_dign a k (by omega)]
  obtain ⟨x, hx⟩ : ∃ x, k / 16 = x := ⟨_, rfl⟩
  obtain ⟨y, hy⟩ : ∃ y, k % 16 = y := ⟨_, rfl⟩
  rw [hx, hy]
  have e1 : (k : Int) / 16 = (x : Int) := by omega
  have e2 : IntKind.i64.wrap (x : Int) = (x : Int) := by rw [IntKind.wrap_i64]; omega
  have e3 : (k : Int).tmod 16 = (y : Int) := by rw [Int.tmod_eq_emod_of_nonneg (by omega)]; omega
  have e4 : (k : Int) % 16 = (y : Int) := by omega
  have e5 : IntKind.i64.wrap (y : Int) = (y : Int) := by rw [IntKind.wrap_i64]; omega
  have x16 : x < 16 := by omega
  have e7 : (x : Int) < 16 := by omega
  have e8 : (y : Int) < 64 := by omega
  have e9 : 0 ≤ (x : Int) := by omega
  have e10 : 0 ≤ (y : Int) := by omega
  have g0 : 0 ≤ (k : Int) := by omega
  have g1 : (k : Int) < 256 := by omega
  have oa := xEg 16 (dig a)
  have da := xEb (w := dig a) x16
  have ld := xFy a x
  have e11 : ((dig a x : Nat) : Int) / 2 ^ y = ((dig a x / 2 ^ y : Nat) : Int) := by simp
  generalize dig a x / 2 ^ y = q at *
  generalize dig a x = d at *
  have e12 : (q : Int).tmod 2 = ((q % 2 : Nat) : Int) := by rw [Int.tmod_eq_emod_of_nonneg (by omega)]; omega
  generalize q % 2 = r at *
  have e13 : 0 ≤ (d : Int) := by omega
  have e14 : 0 ≤ (q : Int) := by omega
  clear hx hy h
  go_enter Tryz.func197, Tryz.ntmps197
  go_wp2_with (first | (refine' aAq hR ?_; clear hR; intro blk w hR) | (refine' aBq hR ?_; clear hR; intro blk w hR) | (refine' aNq hR ?_) | (refine' aMq hR ?_) | (refine' aFq hR ?_; clear hR; intro w hR) | (go_at_call 198; refine (xCz a _).mono ?_; rintro e w ⟨rfl, hb⟩; replace hR := hR.call hb; clear hb))
  all_goals first | (exfalso; omega; done) | skip
  go_ret
  exact ⟨rfl, hR.below⟩
theorem bit_above {a i : Nat} (h : blen a ≤ i) : bitN a i = 0 := by
 rw [xIh]
 split
 ·rfl
 ·rw [Int.toNat_natCast, Nat.div_eq_of_lt (Nat.lt_of_lt_of_le (xFa a) (Nat.pow_le_pow_right (by decide) h))]; rfl
theorem bit_top {a i : Nat} (h : blen a = i + 1) (hi : i < 256) : bitN a i = 1 := by
 rw [xDj a i hi]
 have h0 : a ≠ 0 := fun e => by have := (xDs a).mpr e; omega
 have l1 := blen_le h0
 have l2 := xFa a
 rw [h] at l1 l2
 rw [Nat.pow_succ] at l2
 have : a / 2 ^ i = 1 := (Nat.div_eq_iff (Nat.two_pow_pos i)).mpr ⟨by simpa using l1, by omega⟩
 rw [this]; rfl
theorem xJl (a : Nat) (ha : a < B) (w : World) : Calls Tryz.prog 222 #[num a] w fun e w' =>
  e = .returned (.int .i64 (blen a : Int)) ∧ Below w.heap.size w w' := by
 have hR := Rep.init w
 have hn1 : blen a ≤ 256 := (xBg _ _).mpr (by rw [B_eq] at ha; exact ha)
 obtain ⟨N, hN⟩ : ∃ N, blen a = N := ⟨_, rfl⟩
 rw [hN] at hn1 ⊢
 replace hN := Held.mk hN
 go_enter Tryz.func222, Tryz.ntmps222
 go_wp2_with (refine' aAq hR ?_; clear hR; intro blk w hR)
 rename_i K0 k0
 refine' xBm (false :: false :: false :: false :: true :: true :: true :: true :: true :: true :: true :: true :: true :: true :: []) (fun j l => l.set 3 (.int .i64 ((N : Int) + (j : Int) - 1))) (fun j => [(blk, .cells (nl a).toArray 24)]) (256 - N) ?h0 ?hR ?hs ?he
 case hR =>
  exact hR
 case h0 =>
  rw [show (N : Int) + ((256 - N : Nat) : Int) - 1 = 255 by omega]
  exact xAf rfl rfl rfl
 case hs =>
  clear hR k0
  intro j tm w hj ht hR K hK
  repeat (first | (obtain ⟨x, tm', e, ht'⟩ := xAc ht; clear ht; subst e; have ht := ht'; clear ht') | (obtain ⟨tm', e, ht'⟩ := xAa ht; clear ht; subst e; have ht := ht'; clear ht'))
  obtain rfl := xAe ht
  clear ht
  obtain ⟨k, hk⟩ : ∃ k, N + j = k := ⟨_, rfl⟩
  have e1 : (N : Int) + ((j + 1 : Nat) : Int) - 1 = (k : Int) := by omega
  have e2 : (N : Int) + (j : Int) - 1 = (k : Int) - 1 := by omega
  simp only [e2] at hK
  rw [e1]
  have cb := fun w => xEl a k ha w
  rw [bit_above (by rw [hN.out]; omega)] at cb
  clear e1 e2
  have g0 : 0 ≤ (k : Int) := by omega
  have g1 : (k : Int) < 256 := by omega
  clear hj hk hn1
  go_wp2_with (first | (refine' aNq hR ?_) | (go_at_call 197; refine (cb _).mono ?_; rintro e w ⟨rfl, hb⟩; replace hR := hR.call hb; clear hb))
  exact hK.out _ _ (xAf rfl rfl rfl) hR
 case he =>
  clear hR
  intro tm w ht hR K
  cases N with
  | zero =>
   simp only [Int.natCast_zero, Int.add_zero, Int.zero_sub] at ht
   repeat (first | (obtain ⟨x, tm', e, ht'⟩ := xAc ht; clear ht; subst e; have ht := ht'; clear ht') | (obtain ⟨tm', e, ht'⟩ := xAa ht; clear ht; subst e; have ht := ht'; clear ht'))
   obtain rfl := xAe ht
   clear ht
   go_wp2_with (fail)
   go_ret
   exact ⟨rfl, hR.below⟩
  | succ M =>
   rw [show ((M + 1 : Nat) : Int) + ((0 : Nat) : Int) - 1 = (M : Int) by omega] at ht
   repeat (first | (obtain ⟨x, tm', e, ht'⟩ := xAc ht; clear ht; subst e; have ht := ht'; clear ht') | (obtain ⟨tm', e, ht'⟩ := xAa ht; clear ht; subst e; have ht := ht'; clear ht'))
   obtain rfl := xAe ht
   clear ht
   have cb := fun w => xEl a M ha w
   rw [bit_top hN.out (by omega)] at cb
   have g0 : 0 ≤ (M : Int) := by omega
   have g1 : (M : Int) < 256 := by omega
   go_wp2_with (first | (refine' aNq hR ?_) | (go_at_call 197; refine (cb _).mono ?_; rintro e w ⟨rfl, hb⟩; replace hR := hR.call hb; clear hb))
   go_ret
   exact ⟨congrArg (fun x => Ending.returned (.int .i64 x)) (by omega), hR.below⟩
end
section
attribute [local irreducible] Calls
theorem small_words (a : Nat) (ha : a < B) : a < 18446744073709551616 ↔ wd a 1 = 0 ∧ wd a 2 = 0 ∧ wd a 3 = 0 := by
 have h := xEz a
 rw [Nat.mod_eq_of_lt ha] at h
 have l0 := xDb a 0; have l1 := xDb a 1; have l2 := xDb a 2; have l3 := xDb a 3
 rw [xFm, xFm, xFm]
 unfold ofW at h
 omega
theorem xCj (a : Nat) (ha : a < B) (w : World) : Calls Tryz.prog 195 #[num a] w fun e w' =>
  e = .returned (.bool (decide (a < 18446744073709551616))) ∧ Below w.heap.size w w' := by
 have hs := small_words a ha
 have hR := Rep.init w
 by_cases h1 : wd a 1 = 0
 ·by_cases h2 : wd a 2 = 0
  ·by_cases h3 : wd a 3 = 0
   ·rw [decide_eq_true (hs.mpr ⟨h1, h2, h3⟩)]
    clear hs
    go_enter Tryz.func195, Tryz.ntmps195
    go_wp2_with (first | (refine' aAq hR ?_; clear hR; intro blk w hR) | (refine' aGq hR ?_) | (refine' aBr hR ?_))
    go_ret
    exact ⟨rfl, hR.below⟩
   ·rw [decide_eq_false (fun h => h3 (hs.mp h).2.2)]
    have b3 : (wd a 3 == 0) = false := by simp [h3]
    clear hs
    go_enter Tryz.func195, Tryz.ntmps195
    go_wp2_with (first | (refine' aAq hR ?_; clear hR; intro blk w hR) | (refine' aGq hR ?_) | (refine' aBr hR ?_))
    go_ret
    exact ⟨rfl, hR.below⟩
  ·rw [decide_eq_false (fun h => h2 (hs.mp h).2.1)]
   have b2 : (wd a 2 == 0) = false := by simp [h2]
   clear hs
   go_enter Tryz.func195, Tryz.ntmps195
   go_wp2_with (first | (refine' aAq hR ?_; clear hR; intro blk w hR) | (refine' aGq hR ?_) | (refine' aBr hR ?_))
   go_ret
   exact ⟨rfl, hR.below⟩
 ·rw [decide_eq_false (fun h => h1 (hs.mp h).1)]
  have b1 : (wd a 1 == 0) = false := by simp [h1]
  clear hs
  go_enter Tryz.func195, Tryz.ntmps195
  go_wp2_with (first | (refine' aAq hR ?_; clear hR; intro blk w hR) | (refine' aGq hR ?_))
  go_ret
  exact ⟨rfl, hR.below⟩
theorem nl_bit_add (r bit : Nat) (hb : bit < 2) :
  [Value.int .u64 (IntKind.u64.wrap (wd (r + r) 0 + (bit : Int))), .int .u64 (wd (r + r) 1), .int .u64 (wd (r + r) 2), .int .u64 (wd (r + r) 3)] = nl ((2 * r + bit) % B) := by
 rw [nl_mod]
 have e0 : IntKind.u64.wrap (wd (r + r) 0 + (bit : Int)) = wd (2 * r + bit) 0 := by
  rw [xDe, xDe, IntKind.wrap_u64]; omega
 have e : ∀ i, wd (r + r) (i + 1) = wd (2 * r + bit) (i + 1) := fun i => by
  rw [xDe, xDe, Nat.pow_succ, Nat.mul_comm, ← Nat.div_div_eq_div_mul, ← Nat.div_div_eq_div_mul, show (r + r) / 18446744073709551616 = (2 * r + bit) / 18446744073709551616 by omega]
 unfold nl
 rw [e0, e 0, e 1, e 2]
theorem xKa (r bit m : Nat) (hr : r < m) (hm : m < B) (hb : bit < 2) : ∃ X c : Nat, (2 * r + bit) % B = X ∧ (r + r) / B = c ∧ X < B ∧
    ((c = 1 ∧ num (X + B - m) = num ((2 * r + bit) % m) ∧ 1 = (2 * r + bit) / m) ∨
     (c = 0 ∧ 0 ≤ cmpN X m ∧ num (X + B - m) = num ((2 * r + bit) % m) ∧ 1 = (2 * r + bit) / m) ∨
     (c = 0 ∧ ¬ 0 ≤ cmpN X m ∧ num X = num ((2 * r + bit) % m) ∧ 0 = (2 * r + bit) / m)) := by
  obtain ⟨X, hX, hXB, hc⟩ := next_cases r bit m hr hm hb
  have ec : ((r : Int) + r) / (B : Int) = (((r + r) / B : Nat) : Int) := by rw [← Int.natCast_add, ← Int.natCast_ediv]
  have hbor := xDo (X : Int) (m : Int)
  have hcmp := xFv X m
  refine ⟨X, _, hX, rfl, hXB, ?_⟩
  rw [ec] at hc
  rcases hc with ⟨c1, c2, c3⟩ | ⟨c1, c2, c3, c4⟩ | ⟨c1, c2, c3, c4⟩
  · exact .inl ⟨by omega, c2, by omega⟩
  · refine .inr (.inl ⟨by omega, ?_, c3, by omega⟩)
    rw [hcmp]
    by_cases h : (X : Int) < m
    · rw [if_pos h] at hbor; omega
    · omega
  · refine .inr (.inr ⟨by omega, ?_, c3, by omega⟩)
    rw [hcmp]
    by_cases h : (X : Int) < m
    · omega
    · rw [if_neg h] at hbor; omega
theorem ra_lit {a b s c : Nat} (ha : a < B) (hb : b < B) (hs : a + b = s) (hc : (a + b) / B = c) (w : World) : Calls Tryz.prog 196 #[num a, num b] w fun e w' =>
  e = .returned (.tuple #[num s, .int .u64 (c : Int)]) ∧ Below w.heap.size w w' := by
 have := refAdd_any a b ha hb w
 rwa [hc, hs] at this
theorem rc_lit {a b : Nat} {c : Int} (ha : a < B) (hb : b < B) (hc : cmpN a b = c) (w : World) : Calls Tryz.prog 185 #[num a, num b] w fun e w' =>
  e = .returned (.int .i64 c) ∧ Below w.heap.size w w' := by
 have := refCmp_any a b ha hb w
 rwa [hc] at this
theorem rs_lit {a b d : Nat} (ha : a < B) (hb : b < B) (hd : num (a + B - b) = num d) (w : World) : Calls Tryz.prog 132 #[num a, num b] w fun e w' =>
  e = .returned (.tuple #[num d, .int .u64 (bor a b)]) ∧ Below w.heap.size w w' := by
 have := refSub_any a b ha hb w
 rwa [hd] at this
theorem xIl (r bit m : Nat) (hr : r < m) (hm : m < B) (hb : bit < 2) (w : World) : Calls Tryz.prog 240 #[num r, .int .u64 (bit : Int), num m] w fun e w' =>
  e = .returned (num ((2 * r + bit) % m)) ∧ Below w.heap.size w w' := by
 have hR := Rep.init w
 have hx := nl_bit_add r bit hb
 obtain ⟨X, c, hX, hcc, hXB, hc⟩ := xKa r bit m hr hm hb
 rw [hX] at hx
 have ca := ra_lit (s := r + r) (by omega : r < B) (by omega) rfl hcc
 clear hX hcc
 generalize r + r = s at *
 have cc := rc_lit hXB hm rfl
 rcases hc with ⟨rfl, c2, c3⟩ | ⟨rfl, cg, c2, c3⟩ | ⟨rfl, cg, c2, c3⟩
 ·have cs := rs_lit hXB hm c2
  generalize cmpN X m = t at *
  generalize (2 * r + bit) % m = y at *
  generalize bor (X : Int) (m : Int) = l at *
  clear c2 c3
  go_enter Tryz.func240, Tryz.ntmps240
  go_wp2_with (first | (refine' aAq hR ?_; clear hR; intro blk w hR) | (refine' aBq hR ?_; clear hR; intro blk w hR) | (refine' aEq hR ?_) | (refine' aGq hR ?_) | (refine' aFq hR ?_; clear hR; intro w hR) | (refine' aHq hR ?_; clear hR; intro w hR) | (go_at_call 196; refine (ca _).mono ?_; rintro e w ⟨rfl, hb⟩; replace hR := hR.call hb; clear hb) | (go_at_call 132; refine (cs _).mono ?_; rintro e w ⟨rfl, hb⟩; replace hR := hR.call hb; clear hb))
  (refine' bodyPost_ret (xAq Tryz.results240 rfl (hR.loadAll (P := Tryz.prog) (ty := 24) ?hm ?hn)) rfl ⟨?_, hR.below⟩; (case hm => first | with_reducible assumption | repeat (first | exact .head _ | apply mT)); (case hn => first | rfl | simp))
  rfl
 ·have cs := rs_lit hXB hm c2
  generalize cmpN X m = t at *
  generalize (2 * r + bit) % m = y at *
  generalize bor (X : Int) (m : Int) = l at *
  clear c2 c3
  go_enter Tryz.func240, Tryz.ntmps240
  go_wp2_with (first | (refine' aAq hR ?_; clear hR; intro blk w hR) | (refine' aBq hR ?_; clear hR; intro blk w hR) | (refine' aEq hR ?_) | (refine' aGq hR ?_) | (refine' aFq hR ?_; clear hR; intro w hR) | (refine' aHq hR ?_; clear hR; intro w hR) | (refine' aCr hR ?_) | (go_at_call 196; refine (ca _).mono ?_; rintro e w ⟨rfl, hb⟩; replace hR := hR.call hb; clear hb) | (go_at_call 132; refine (cs _).mono ?_; rintro e w ⟨rfl, hb⟩; replace hR := hR.call hb; clear hb) | (go_at_call 185; refine (cc _).mono ?_; rintro e w ⟨rfl, hb⟩; replace hR := hR.call hb; clear hb))
  (refine' bodyPost_ret (xAq Tryz.results240 rfl (hR.loadAll (P := Tryz.prog) (ty := 24) ?hm ?hn)) rfl ⟨?_, hR.below⟩; (case hm => first | with_reducible assumption | repeat (first | exact .head _ | apply mT)); (case hn => first | rfl | simp))
  rfl
 ·rw [← c2]
  generalize cmpN X m = t at *
  clear c2 c3
  go_enter Tryz.func240, Tryz.ntmps240
  go_wp2_with (first | (refine' aAq hR ?_; clear hR; intro blk w hR) | (refine' aBq hR ?_; clear hR; intro blk w hR) | (refine' aEq hR ?_) | (refine' aGq hR ?_) | (refine' aFq hR ?_; clear hR; intro w hR) | (refine' aHq hR ?_; clear hR; intro w hR) | (refine' aCr hR ?_) | (go_at_call 196; refine (ca _).mono ?_; rintro e w ⟨rfl, hb⟩; replace hR := hR.call hb; clear hb) | (go_at_call 185; refine (cc _).mono ?_; rintro e w ⟨rfl, hb⟩; replace hR := hR.call hb; clear hb))
  (refine' bodyPost_ret (xAq Tryz.results240 rfl (hR.loadAll (P := Tryz.prog) (ty := 24) ?hm ?hn)) rfl ⟨?_, hR.below⟩; (case hm => first | with_reducible assumption | repeat (first | exact .head _ | apply mT)); (case hn => first | rfl | simp))
  try rw [hx]
end
end Go.Proofs.YtaaahfjpnggkbaaGreatDoor
