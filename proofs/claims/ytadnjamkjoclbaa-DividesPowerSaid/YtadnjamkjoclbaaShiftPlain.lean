/- Shifted numbers, word by word: the plain part. -/
import Derived.Test.YtadnjamkjoclbaaDiv
set_option linter.unusedSimpArgs false
set_option linter.unusedVariables false
namespace Go.Proofs.Ytadnjamkjoclbaa
open Go.RowKit

/-- A number, shifted to the left (s above 0) or to the right. -/
noncomputable def shN : Nat → Int → Nat := opq fun a s => if s ≤ -256 ∨ 256 ≤ s then 0 else if 0 ≤ s then a * 2 ^ s.toNat % B else a / 2 ^ (-s).toNat
theorem shN_def (a : Nat) (s : Int) : shN a s = if s ≤ -256 ∨ 256 ≤ s then 0 else if 0 ≤ s then a * 2 ^ s.toNat % B else a / 2 ^ (-s).toNat := by unfold shN; rw [opq_eq]
theorem shN_lt {a : Nat} (ha : a < B) (s : Int) : shN a s < B := by
  rw [shN_def]
  split
  · exact B_pos
  · split
    · exact Nat.mod_lt _ B_pos
    · exact Nat.lt_of_le_of_lt (Nat.div_le_self _ _) ha
theorem w64_zero {a k : Nat} (ha : a < B) (hk : 4 ≤ k) : w64 a k = 0 := by
  unfold w64
  rw [pow64, Nat.div_eq_of_lt]
  exact Nat.lt_of_lt_of_le ha (by rw [B_eq]; exact Nat.le_trans (by decide : _ ≤ 2 ^ (64 * 4)) (Nat.pow_le_pow_right (by decide) (by omega)))
/-- One word of a number that is moved by less than a word. -/
theorem word_shift (a k r : Nat) (hr : r < 64) : a * 2 ^ r / 2 ^ (64 * k) % 2 ^ 64 = (w64 a k * 2 ^ r % 2 ^ 64) ||| (if k = 0 then 0 else w64 a (k - 1) / 2 ^ (64 - r)) := by
  have hh := Nat.div_add_mod a (2 ^ (64 * k))
  obtain ⟨h, eh⟩ : ∃ h, a / 2 ^ (64 * k) = h := ⟨_, rfl⟩
  obtain ⟨l, el⟩ : ∃ l, a % 2 ^ (64 * k) = l := ⟨_, rfl⟩
  have ll : l < 2 ^ (64 * k) := by rw [← el]; exact Nat.mod_lt _ (Nat.two_pow_pos _)
  rw [eh, el] at hh
  have e1 : a * 2 ^ r / 2 ^ (64 * k) = h * 2 ^ r + l * 2 ^ r / 2 ^ (64 * k) := by
    rw [← hh, Nat.add_mul, Nat.mul_assoc, Nat.mul_add_div (Nat.two_pow_pos _)]
  have e2 : w64 a k * 2 ^ r % 2 ^ 64 = h * 2 ^ r % 2 ^ 64 := by
    unfold w64
    rw [pow64, eh, show (18446744073709551616 : Nat) = 2 ^ 64 from rfl, Nat.mod_mul_mod]
  have e3 : l * 2 ^ r / 2 ^ (64 * k) = if k = 0 then 0 else w64 a (k - 1) / 2 ^ (64 - r) := by
    by_cases k0 : k = 0
    · rw [if_pos k0]
      subst k0
      have : l = 0 := by simpa using ll
      rw [this]; simp
    · rw [if_neg k0]
      obtain ⟨j, rfl⟩ : ∃ j, k = j + 1 := ⟨k - 1, by omega⟩
      have p : 2 ^ (64 * (j + 1)) = 2 ^ r * (2 ^ (64 * j) * 2 ^ (64 - r)) := by
        rw [← Nat.pow_add, ← Nat.pow_add, show r + (64 * j + (64 - r)) = 64 * (j + 1) by omega]
      rw [p, Nat.mul_comm l, Nat.mul_div_mul_left _ _ (Nat.two_pow_pos _), ← Nat.div_div_eq_div_mul]
      have q : l / 2 ^ (64 * j) = w64 a j := by
        unfold w64
        rw [pow64, ← el, show (18446744073709551616 : Nat) = 2 ^ 64 from rfl, show 64 * (j + 1) = 64 * j + 64 by omega, Nat.pow_add, Nat.mod_mul_right_div_self]
      rw [q, Nat.add_sub_cancel]
  have e4 : (if k = 0 then 0 else w64 a (k - 1) / 2 ^ (64 - r)) < 2 ^ r := by
    split
    · exact Nat.two_pow_pos _
    · rw [Nat.div_lt_iff_lt_mul (Nat.two_pow_pos _), ← Nat.pow_add, show r + (64 - r) = 64 by omega]
      exact w64_lt _ _
  rw [e1, e2, e3]
  generalize (if k = 0 then 0 else w64 a (k - 1) / 2 ^ (64 - r)) = y at *
  obtain ⟨g, hg⟩ : 2 ^ r ∣ 2 ^ 64 := Nat.pow_dvd_pow 2 (by omega)
  have m1 : h * 2 ^ r % 2 ^ 64 = 2 ^ r * (h % g) := by rw [hg, Nat.mul_comm h, Nat.mul_mod_mul_left]
  have m2 : (h * 2 ^ r + y) % 2 ^ 64 = 2 ^ r * (h % g) + y := by
    rw [Nat.mul_comm h, hg, Nat.mod_mul, Nat.mul_add_div (Nat.two_pow_pos _), Nat.div_eq_of_lt e4, Nat.mul_add_mod, Nat.mod_eq_of_lt e4, Nat.add_zero]
    exact Nat.add_comm _ _
  rw [m1, m2, Nat.two_pow_add_eq_or_of_lt e4]
/-- A word of the shifted number, told by the words behind it. -/
theorem w64_shN {a : Nat} (ha : a < B) {s : Int} (h1 : -256 < s) (h2 : s < 256) {i : Nat} (hi : i < 4) {w : Int} {r : Nat} (hr : r < 64) (hs : s = 64 * w + r) :
    w64 (shN a s) i = if (i : Int) < w then 0 else (w64 a ((i : Int) - w).toNat * 2 ^ r % 2 ^ 64) ||| (if ((i : Int) - w).toNat = 0 then 0 else w64 a (((i : Int) - w).toNat - 1) / 2 ^ (64 - r)) := by
  rw [shN_def, if_neg (by omega)]
  by_cases h0 : 0 ≤ s
  · rw [if_pos h0]
    obtain ⟨v, rfl⟩ := Int.eq_ofNat_of_zero_le (show 0 ≤ w by omega)
    have es : s.toNat = 64 * v + r := by omega
    rw [es]
    have eB : w64 (a * 2 ^ (64 * v + r) % B) i = a * 2 ^ (64 * v + r) / 2 ^ (64 * i) % 2 ^ 64 := by
      unfold w64
      rw [pow64, show B = 2 ^ (64 * i) * 2 ^ (256 - 64 * i) by rw [← Nat.pow_add, show 64 * i + (256 - 64 * i) = 256 by omega, B_eq], Nat.mod_mul_right_div_self]
      rw [show (18446744073709551616 : Nat) = 2 ^ 64 from rfl]
      exact Nat.mod_mod_of_dvd _ (Nat.pow_dvd_pow 2 (by omega))
    rw [eB]
    by_cases hv : (i : Int) < (v : Int)
    · rw [if_pos hv]
      have : 64 * v + r = 64 * i + (64 + (64 * (v - i - 1) + r)) := by omega
      rw [this, Nat.pow_add, Nat.mul_left_comm, Nat.mul_div_cancel_left _ (Nat.two_pow_pos _), Nat.pow_add, Nat.mul_left_comm]
      exact Nat.mul_mod_right _ _
    · rw [if_neg hv, ← word_shift a _ r hr]
      have e : ((i : Int) - (v : Int)).toNat = i - v := by omega
      rw [e]
      have : 64 * i = 64 * v + 64 * (i - v) := by omega
      rw [this, Nat.pow_add, Nat.pow_add, Nat.mul_left_comm, Nat.mul_div_mul_left _ _ (Nat.two_pow_pos _)]
  · rw [if_neg h0, if_neg (by omega), ← word_shift a _ r hr]
    unfold w64
    rw [pow64, Nat.div_div_eq_div_mul, ← Nat.pow_add, show (18446744073709551616 : Nat) = 2 ^ 64 from rfl]
    have e : 64 * ((i : Int) - w).toNat = ((-s).toNat + 64 * i) + r := by omega
    rw [e, Nat.pow_add _ _ r, Nat.mul_div_mul_right _ _ (Nat.two_pow_pos _), Nat.pow_add]

/-- The words that are done. -/
noncomputable def part : Nat → Nat → List Value := opq fun N i => [.int .u64 (if 0 < i then wd N 0 else 0), .int .u64 (if 1 < i then wd N 1 else 0), .int .u64 (if 2 < i then wd N 2 else 0), .int .u64 (if 3 < i then wd N 3 else 0)]
theorem part_def (N i : Nat) : part N i = [.int .u64 (if 0 < i then wd N 0 else 0), .int .u64 (if 1 < i then wd N 1 else 0), .int .u64 (if 2 < i then wd N 2 else 0), .int .u64 (if 3 < i then wd N 3 else 0)] := by unfold part; rw [opq_eq]
theorem part_len (N i : Nat) : (part N i).length = 4 := by rw [part_def]; rfl
theorem part_zero (N : Nat) : part N 0 = nl 0 := by rw [part_def, ← nl_zero]; rfl
theorem part_all (N : Nat) : part N 4 = nl N := by rw [part_def]; rfl
theorem part_at (N i : Nat) (hi : i < 4) : (part N i)[i]? = some (.int .u64 0) := by
  rw [part_def]
  have : i = 0 ∨ i = 1 ∨ i = 2 ∨ i = 3 := by omega
  rcases this with rfl | rfl | rfl | rfl <;> rfl
theorem part_set (N i : Nat) (hi : i < 4) : (part N i).set i (.int .u64 (wd N i)) = part N (i + 1) := by
  rw [part_def, part_def]
  have : i = 0 ∨ i = 1 ∨ i = 2 ∨ i = 3 := by omega
  rcases this with rfl | rfl | rfl | rfl <;> rfl
theorem part_same (N i : Nat) (hi : i < 4) (h : wd N i = 0) : part N i = part N (i + 1) := by
  rw [part_def, part_def]
  have : i = 0 ∨ i = 1 ∨ i = 2 ∨ i = 3 := by omega
  rcases this with rfl | rfl | rfl | rfl <;> simp [h]
end Go.Proofs.Ytadnjamkjoclbaa
