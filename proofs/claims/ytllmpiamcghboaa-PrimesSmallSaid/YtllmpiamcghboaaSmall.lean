/- The walks of primes.Small and of the reference's Small. -/
import Derived.Test.YtllmpiamcghboaaProg
import Derived.WalkKit
import Derived.WalkSpells
import Derived.WalkLawsBesides
import Derived.Outline
namespace Go.Proofs.Ytllmpiamcghboaa
open Go.RowKit

/-- No d from 2 on below k divides n. -/
def noDiv (n k : Nat) : Prop := ∀ d, 2 ≤ d → d < k → n % d ≠ 0

/-- The answer: a number from 2 on, below 2^32, that no d from 2 on with d * d ≤ n divides. -/
def IsSmall (n : Nat) : Prop := 2 ≤ n ∧ n < 4294967296 ∧ ∀ d, 2 ≤ d → d * d ≤ n → n % d ≠ 0
open Classical in
noncomputable def smallB (n : Nat) : Bool := decide (IsSmall n)
open Classical in
theorem smallB_no {n : Nat} (h : ¬ IsSmall n) : smallB n = false := by unfold smallB; exact decide_eq_false h
open Classical in
theorem smallB_yes {n : Nat} (h : IsSmall n) : smallB n = true := by unfold smallB; exact decide_eq_true h

theorem ret_bool {a b : Bool} (h : a = b) : Ending.returned (.bool a) = .returned (.bool b) := by rw [h]
theorem smallB_lt (n : Nat) (h : n < 2) : smallB n = false := by
  refine smallB_no ?_; unfold IsSmall; omega
theorem smallB_ge (n : Nat) (h : ¬ n < 4294967296) : smallB n = false := by
  refine smallB_no ?_; unfold IsSmall; omega
theorem smallB_div (n k : Nat) (hk : 2 ≤ k) (h : k * k ≤ n) (h0 : n % k = 0) : smallB n = false := by
  refine smallB_no ?_; unfold IsSmall
  rintro ⟨_, _, h3⟩
  exact h3 k hk h h0
theorem smallB_none (n k : Nat) (h2 : ¬ n < 2) (h3 : n < 4294967296) (h : n < k * k) (hno : noDiv n k) : smallB n = true := by
  refine smallB_yes ?_
  refine ⟨by omega, h3, fun d hd hdd => hno d hd ?_⟩
  rcases Nat.lt_or_ge d k with hlt | hge
  · exact hlt
  · have := Nat.mul_le_mul hge hge
    omega
theorem noDiv_two (n : Nat) : noDiv n 2 := fun d h1 h2 => by omega
theorem noDiv_succ (n k : Nat) (h : noDiv n k) (h0 : n % k ≠ 0) : noDiv n (k + 1) := fun d h1 h2 => by
  rcases Nat.lt_or_ge d k with hlt | hge
  · exact h d h1 hlt
  · have : d = k := by omega
    subst this; exact h0
theorem sq_le (n k : Nat) (h3 : n < 4294967296) (h : k * k ≤ n) : k < 65536 := by
  rcases Nat.lt_or_ge k 65536 with hlt | hge
  · exact hlt
  · have := Nat.mul_le_mul hge hge
    omega

theorem le_of_cast {n k : Nat} (h : (k : Int) * k ≤ n) : k * k ≤ n := by
  have : ((k * k : Nat) : Int) ≤ n := by simpa using h
  omega
theorem lt_of_cast {n k : Nat} (h : (n : Int) < (k : Int) * k) : n < k * k := by
  have : (n : Int) < ((k * k : Nat) : Int) := by simpa using h
  omega
theorem mod_zero_of {n k : Nat} (h : ((n : Int) % k == 0) = true) : n % k = 0 := by
  have : (n : Int) % k = 0 := by simpa using h
  omega
theorem mod_ne_of {n k : Nat} (h : ((n : Int) % k == 0) = false) : n % k ≠ 0 := by
  intro h0
  have : (n : Int) % k = 0 := by omega
  simp [this] at h

set_option maxHeartbeats 400000 in
theorem small_any (n : Nat) (w : World) (hn : n < 18446744073709551616) :
    Calls Try.prog 9 #[.int .u64 n] w fun e w' => e = .returned (.bool (smallB n)) ∧ w = w' := by
  by_cases h2 : n < 2
  · go_enter Try.func9, Try.ntmps9
    go_wp2
    go_step3
    go_wp2
    go_ret
    exact ⟨ret_bool (smallB_lt n h2).symm, rfl⟩
  · by_cases h3 : n < 4294967296
    · have hs : (n : Int) / 4294967296 = 0 := by omega
      go_enter Try.func9, Try.ntmps9
      go_wp2
      go_step3
      go_wp2
      go_step3
      go_wp2
      go_loop [3, 4] (fun i d => ∃ k : Nat, 2 ≤ k ∧ k ≤ 65536 ∧ noDiv n k ∧ d = .int .u64 k ∧ i = .bool true) (fun _ d => 65536 - (intOf d).toNat)
      case atStart => exact ⟨2, by omega, by omega, noDiv_two n, rfl, rfl⟩
      case round =>
        obtain ⟨k, hk2, hk, hno, rfl, rfl⟩ := hrel
        have hkk : (k : Int) * k ≤ 4294967296 := by
          have := Nat.mul_le_mul hk hk
          have h' : ((k * k : Nat) : Int) ≤ 4294967296 := by omega
          simpa using h'
        have hk0 : (0 : Int) ≤ (k : Int) * k := by
          have h' : (0 : Int) ≤ ((k * k : Nat) : Int) := by omega
          simpa using h'
        go_wp2
        · have h1 : (k : Int) * k ≤ n := by assumption
          have h0 : ((n : Int) % k == 0) = true := by assumption
          go_ret
          exact ⟨ret_bool (smallB_div n k hk2 (le_of_cast h1) (mod_zero_of h0)).symm, rfl⟩
        · have h1 : (k : Int) * k ≤ n := by assumption
          have h0 : ((n : Int) % k == 0) = false := by assumption
          have hlt := sq_le n k h3 (le_of_cast h1)
          go_round
          case rel => exact ⟨k + 1, by omega, by omega, noDiv_succ n k hno (mod_ne_of h0), by go_num, rfl⟩
          case measure => simp [intOf]; omega
        · have h1 : (n : Int) < (k : Int) * k := by assumption
          go_ret
          exact ⟨ret_bool (smallB_none n k h2 h3 (lt_of_cast h1) hno).symm, rfl⟩
    · have hs : (n : Int) / 4294967296 > 0 := by omega
      go_enter Try.func9, Try.ntmps9
      go_wp2
      go_step3
      go_wp2
      try rw [Exit.noGoto_ret]
      go_ret
      exact ⟨ret_bool (smallB_ge n h3).symm, rfl⟩

set_option maxHeartbeats 400000 in
theorem refSmall_any (n : Nat) (w : World) (hn : n < 18446744073709551616) :
    Calls Try.prog 10 #[.int .u64 n] w fun e w' => e = .returned (.bool (smallB n)) ∧ w = w' := by
  by_cases h2 : n < 2
  · go_enter Try.func10, Try.ntmps10
    go_wp2
    go_ret
    exact ⟨ret_bool (smallB_lt n h2).symm, rfl⟩
  · by_cases h3 : n < 4294967296
    · go_enter Try.func10, Try.ntmps10
      go_wp2
      go_loop [2, 3] (fun r d => ∃ k : Nat, 2 ≤ k ∧ k ≤ 65536 ∧ noDiv n k ∧ d = .int .u64 k ∧ r = .bool false) (fun _ d => 65536 - (intOf d).toNat)
      case atStart => exact ⟨2, by omega, by omega, noDiv_two n, rfl, rfl⟩
      case round =>
        obtain ⟨k, hk2, hk, hno, rfl, rfl⟩ := hrel
        have hkk : (k : Int) * k ≤ 4294967296 := by
          have := Nat.mul_le_mul hk hk
          have h' : ((k * k : Nat) : Int) ≤ 4294967296 := by omega
          simpa using h'
        have hk0 : (0 : Int) ≤ (k : Int) * k := by
          have h' : (0 : Int) ≤ ((k * k : Nat) : Int) := by omega
          simpa using h'
        go_wp2
        · have h1 : (k : Int) * k ≤ n := by assumption
          have h0 : ((n : Int) % k == 0) = true := by assumption
          go_ret
          exact ⟨ret_bool (smallB_div n k hk2 (le_of_cast h1) (mod_zero_of h0)).symm, rfl⟩
        · have h1 : (k : Int) * k ≤ n := by assumption
          have h0 : ((n : Int) % k == 0) = false := by assumption
          have hlt := sq_le n k h3 (le_of_cast h1)
          go_round
          case rel => exact ⟨k + 1, by omega, by omega, noDiv_succ n k hno (mod_ne_of h0), by go_num, rfl⟩
          case measure => simp [intOf]; omega
        · have h1 : (n : Int) < (k : Int) * k := by assumption
          go_ret
          exact ⟨ret_bool (smallB_none n k h2 h3 (lt_of_cast h1) hno).symm, rfl⟩
    · go_enter Try.func10, Try.ntmps10
      go_wp2
      go_ret
      exact ⟨ret_bool (smallB_ge n h3).symm, rfl⟩

theorem primesSmall_walk (n : Nat) (w : World) (hn : n < 18446744073709551616) :
    Calls Try.prog 3 #[.int .u64 n] w fun e w' => e = .returned (.bool true) ∧ w = w' := by
  go_enter Try.func3, Try.ntmps3
  go_wp2_with (first | (go_at_call 9; refine (small_any n _ hn).mono ?_; rintro e w' ⟨rfl, rfl⟩) | (go_at_call 10; refine (refSmall_any n _ hn).mono ?_; rintro e w' ⟨rfl, rfl⟩))
  go_ret
  exact ⟨rfl, rfl⟩
end Go.Proofs.Ytllmpiamcghboaa
