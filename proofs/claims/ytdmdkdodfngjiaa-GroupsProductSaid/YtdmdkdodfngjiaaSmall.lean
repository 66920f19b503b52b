/- The contract of primes.Small. -/
import Derived.Test.YtdmdkdodfngjiaaPairs
import Derived.WalkKit
import Derived.WalkSpells
import Derived.WalkLawsBesides
import Derived.Outline
set_option linter.unusedSimpArgs false
set_option linter.unusedVariables false
namespace Go.Proofs.Ytdmdkdodfngjiaa
open Go.RowKit

/-- No d from 2 on below k divides n. -/
def noDiv (n k : Nat) : Prop := ∀ d, 2 ≤ d → d < k → n % d ≠ 0

/-- The answer: a number from 2 on, below 2^32, that no d from 2 on with d * d ≤ n divides. -/
def IsSmall (n : Nat) : Prop := 2 ≤ n ∧ n < 4294967296 ∧ ∀ d, 2 ≤ d → d * d ≤ n → n % d ≠ 0
open Classical in
noncomputable def smallB (n : Nat) : Bool := decide (IsSmall n)
open Classical in
theorem smallB_no {n : Nat} (h : ¬ IsSmall n) : smallB n = false := by unfold smallB; exact decide_eq_false h
open Classical in
theorem smallB_yes {n : Nat} (h : IsSmall n) : smallB n = true := by unfold smallB; exact decide_eq_true h

theorem ret_bool {a b : Bool} (h : a = b) : Ending.returned (.bool a) = .returned (.bool b) := by rw [h]
theorem smallB_lt (n : Nat) (h : n < 2) : smallB n = false := by
  refine smallB_no ?_; unfold IsSmall; omega
theorem smallB_ge (n : Nat) (h : ¬ n < 4294967296) : smallB n = false := by
  refine smallB_no ?_; unfold IsSmall; omega
theorem smallB_div (n k : Nat) (hk : 2 ≤ k) (h : k * k ≤ n) (h0 : n % k = 0) : smallB n = false := by
  refine smallB_no ?_; unfold IsSmall
  rintro ⟨_, _, h3⟩
  exact h3 k hk h h0
theorem smallB_none (n k : Nat) (h2 : ¬ n < 2) (h3 : n < 4294967296) (h : n < k * k) (hno : noDiv n k) : smallB n = true := by
  refine smallB_yes ?_
  refine ⟨by omega, h3, fun d hd hdd => hno d hd ?_⟩
  rcases Nat.lt_or_ge d k with hlt | hge
  · exact hlt
  · have := Nat.mul_le_mul hge hge
    omega
theorem noDiv_two (n : Nat) : noDiv n 2 := fun d h1 h2 => by omega
theorem noDiv_succ (n k : Nat) (h : noDiv n k) (h0 : n % k ≠ 0) : noDiv n (k + 1) := fun d h1 h2 => by
  rcases Nat.lt_or_ge d k with hlt | hge
  · exact h d h1 hlt
  · have : d = k := by omega
    subst this; exact h0
theorem sq_le (n k : Nat) (h3 : n < 4294967296) (h : k * k ≤ n) : k < 65536 := by
  rcases Nat.lt_or_ge k 65536 with hlt | hge
  · exact hlt
  · have := Nat.mul_le_mul hge hge
    omega

theorem le_of_cast {n k : Nat} (h : (k : Int) * k ≤ n) : k * k ≤ n := by
  have : ((k * k : Nat) : Int) ≤ n := by simpa using h
  omega
theorem lt_of_cast {n k : Nat} (h : (n : Int) < (k : Int) * k) : n < k * k := by
  have : (n : Int) < ((k * k : Nat) : Int) := by simpa using h
  omega
theorem mod_zero_of {n k : Nat} (h : ((n : Int) % k == 0) = true) : n % k = 0 := by
  have : (n : Int) % k = 0 := by simpa using h
  omega
theorem mod_ne_of {n k : Nat} (h : ((n : Int) % k == 0) = false) : n % k ≠ 0 := by
  intro h0
  have : (n : Int) % k = 0 := by omega
  simp [this] at h

set_option maxRecDepth 100000 in
set_option maxHeartbeats 400000 in
theorem small_any (n : Nat) (w : World) (hn : n < 18446744073709551616) :
    Calls Try.prog 70 #[.int .u64 n] w fun e w' => e = .returned (.bool (smallB n)) ∧ w = w' := by
  by_cases h2 : n < 2
  · go_enter Try.func70, Try.ntmps70
    go_wp2
    go_step3
    go_wp2
    go_ret
    exact ⟨ret_bool (smallB_lt n h2).symm, rfl⟩
  · by_cases h3 : n < 4294967296
    · have hs : (n : Int) / 4294967296 = 0 := by omega
      go_enter Try.func70, Try.ntmps70
      go_wp2
      go_step3
      go_wp2
      go_step3
      go_wp2
      go_loop [3, 4] (fun i d => ∃ k : Nat, 2 ≤ k ∧ k ≤ 65536 ∧ noDiv n k ∧ d = .int .u64 k ∧ i = .bool true) (fun _ d => 65536 - (intOf d).toNat)
      case atStart => exact ⟨2, by omega, by omega, noDiv_two n, rfl, rfl⟩
      case round =>
        obtain ⟨k, hk2, hk, hno, rfl, rfl⟩ := hrel
        have hkk : (k : Int) * k ≤ 4294967296 := by
          have := Nat.mul_le_mul hk hk
          have h' : ((k * k : Nat) : Int) ≤ 4294967296 := by omega
          simpa using h'
        have hk0 : (0 : Int) ≤ (k : Int) * k := by
          have h' : (0 : Int) ≤ ((k * k : Nat) : Int) := by omega
          simpa using h'
        go_wp2
        · have h1 : (k : Int) * k ≤ n := by assumption
          have h0 : ((n : Int) % k == 0) = true := by assumption
          go_ret
          exact ⟨ret_bool (smallB_div n k hk2 (le_of_cast h1) (mod_zero_of h0)).symm, rfl⟩
        · have h1 : (k : Int) * k ≤ n := by assumption
          have h0 : ((n : Int) % k == 0) = false := by assumption
          have hlt := sq_le n k h3 (le_of_cast h1)
          go_round
          case rel => exact ⟨k + 1, by omega, by omega, noDiv_succ n k hno (mod_ne_of h0), by go_num, rfl⟩
          case measure => simp [intOf]; omega
        · have h1 : (n : Int) < (k : Int) * k := by assumption
          go_ret
          exact ⟨ret_bool (smallB_none n k h2 h3 (lt_of_cast h1) hno).symm, rfl⟩
    · have hs : (n : Int) / 4294967296 > 0 := by omega
      go_enter Try.func70, Try.ntmps70
      go_wp2
      go_step3
      go_wp2
      try rw [Exit.noGoto_ret]
      go_ret
      exact ⟨ret_bool (smallB_ge n h3).symm, rfl⟩


theorem small_lit (n : Nat) (b : Bool) (hn : n < 18446744073709551616) (hb : smallB n = b) (w : World) : Calls Try.prog 70 #[.int .u64 n] w fun e w' => e = .returned (.bool b) ∧ Below w.heap.size w w' :=
  (small_any n w hn).mono fun e w' ⟨h1, h2⟩ => ⟨by rw [h1, hb], by rw [← h2]; exact Below.refl _ _⟩

/-! ### Reckoned -/
/-- No d from k on, f of them, divides n where d * d is no more. -/
def tryB (n : Nat) : Nat → Nat → Bool
  | 0, _ => true
  | f + 1, k => decide (n < k * k) || (n % k != 0 && tryB n f (k + 1))
theorem tryB_spec (n : Nat) : ∀ f k, n < (k + f) * (k + f) → tryB n f k = true → ∀ d, k ≤ d → d * d ≤ n → n % d ≠ 0
  | 0, k, h, _, d, h1, h2 => by
    have := Nat.mul_le_mul h1 h1
    rw [Nat.add_zero] at h
    omega
  | f + 1, k, h, ht, d, h1, h2 => by
    unfold tryB at ht
    simp only [Bool.or_eq_true, Bool.and_eq_true, decide_eq_true_eq, bne_iff_ne] at ht
    rcases ht with ht | ⟨h3, h4⟩
    · have := Nat.mul_le_mul h1 h1
      omega
    · by_cases e : d = k
      · rw [e]; exact h3
      · exact tryB_spec n f (k + 1) (by rw [show k + 1 + f = k + (f + 1) by omega]; exact h) h4 d (by omega) h2
theorem tryB_no (n : Nat) : ∀ f k, tryB n f k = false → ∃ d, k ≤ d ∧ d * d ≤ n ∧ n % d = 0
  | 0, k, h => by cases h
  | f + 1, k, h => by
    unfold tryB at h
    simp only [Bool.or_eq_false_iff, Bool.and_eq_false_iff, decide_eq_false_iff_not, bne_eq_false_iff_eq] at h
    obtain ⟨h1, h2 | h2⟩ := h
    · exact ⟨k, Nat.le_refl _, by omega, h2⟩
    · obtain ⟨d, a, b, c⟩ := tryB_no n f (k + 1) h2
      exact ⟨d, by omega, b, c⟩
/-- Tried in blocks of 256. -/
def manyB (n : Nat) : Nat → Nat → Bool
  | 0, _ => true
  | f + 1, k => tryB n 256 k && manyB n f (k + 256)
theorem tryB_all (n : Nat) : ∀ f k, tryB n f k = true → ∀ d, k ≤ d → d < k + f → d * d ≤ n → n % d ≠ 0
  | 0, k, _, d, h1, h2, _ => by omega
  | f + 1, k, ht, d, h1, h2, h3 => by
    unfold tryB at ht
    simp only [Bool.or_eq_true, Bool.and_eq_true, decide_eq_true_eq, bne_iff_ne] at ht
    rcases ht with ht | ⟨h4, h5⟩
    · have := Nat.mul_le_mul h1 h1
      omega
    · by_cases e : d = k
      · rw [e]; exact h4
      · exact tryB_all n f (k + 1) h5 d (by omega) (by omega) h3
theorem manyB_all (n : Nat) : ∀ f k, manyB n f k = true → ∀ d, k ≤ d → d < k + 256 * f → d * d ≤ n → n % d ≠ 0
  | 0, k, _, d, h1, h2, _ => by omega
  | f + 1, k, ht, d, h1, h2, h3 => by
    simp only [manyB, Bool.and_eq_true] at ht
    by_cases e : d < k + 256
    · exact tryB_all n 256 k ht.1 d h1 e h3
    · exact manyB_all n f (k + 256) ht.2 d (by omega) (by omega) h3
theorem small_great : smallB 4294967291 = true := by
  refine smallB_yes ⟨by decide, by decide, fun d h1 h2 => ?_⟩
  have h : manyB 4294967291 256 2 = true := by decide +kernel
  have l := sq_le 4294967291 d (by decide) h2
  exact manyB_all 4294967291 256 2 h d h1 (by omega) h2
end Go.Proofs.Ytdmdkdodfngjiaa
