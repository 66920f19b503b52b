/- The contract of the deed of mods.Inv. -/
import Derived.Test.YtdmdkdodfngjiaaModsDeeds
import Derived.Test.YtdmdkdodfngjiaaAllocs
set_option linter.unusedSimpArgs false
set_option linter.unusedVariables false
namespace Go.Proofs.Ytdmdkdodfngjiaa
open Go.RowKit
attribute [local irreducible] Calls

theorem inv_key {m a r s x y q left u1 u2 u3 u4 u5 u6 r' s' t z : Int} (f1 : m * u1 + r' = x * a) (f2 : m * u2 + s' = y * a) (f3 : m * u3 + t = q * y) (f4 : m * u4 + z = x + (m - t)) (f5 : m * u5 + r' = r) (f6 : m * u6 + s' = s) (f7 : s * q + left = r) :
    z * a = left + m * (u1 - u5 + a + u3 * a - u4 * a - q * (u2 - u6)) := by
  have g4 : z = x + (m - t) - m * u4 := by omega
  have g3 : t = q * y - m * u3 := by omega
  have g7 : left = r - s * q := by omega
  have g5 : r' = r - m * u5 := by omega
  have g6 : s' = s - m * u6 := by omega
  subst g4 g3 g7 g5 g6
  have k1 : x * a = m * u1 + (r - m * u5) := f1.symm
  have k2 : q * (y * a) = q * (m * u2 + (s - m * u6)) := by rw [f2]
  have e : (x + (m - (q * y - m * u3)) - m * u4) * a = x * a + m * a - q * (y * a) + m * u3 * a - m * u4 * a := by grind
  rw [e, k1, k2]
  grind
/-- One step keeps what it must. -/
theorem inv_step {a m r s x y : Nat} (hm : 0 < m) (h1 : x * a % m = r % m) (h2 : y * a % m = s % m) : subN x (mulN (r / s) y m) m * a % m = r % s % m := by
  rw [subN_def, mulN_def]
  have e1 := Nat.div_add_mod (x * a) m
  have e2 := Nat.div_add_mod (y * a) m
  have e3 := Nat.div_add_mod (r / s * y) m
  have e4 := Nat.div_add_mod (x + (m - r / s * y % m)) m
  have e5 := Nat.div_add_mod r m
  have e6 := Nat.div_add_mod s m
  have e7 := Nat.div_add_mod r s
  have l3 : r / s * y % m < m := Nat.mod_lt _ hm
  rw [h1] at e1
  rw [h2] at e2
  generalize r / s = q at *
  generalize r % s = left at *
  generalize x * a / m = u1 at *
  generalize y * a / m = u2 at *
  generalize q * y / m = u3 at *
  generalize q * y % m = t at *
  generalize (x + (m - t)) / m = u4 at *
  generalize (x + (m - t)) % m = z at *
  generalize r / m = u5 at *
  generalize r % m = r' at *
  generalize s / m = u6 at *
  generalize s % m = s' at *
  have key : (z : Int) * a = left + m * (u1 - u5 + a + u3 * a - u4 * a - q * (u2 - u6)) := by
    have f1 : (m : Int) * u1 + r' = x * a := by exact_mod_cast e1
    have f2 : (m : Int) * u2 + s' = y * a := by exact_mod_cast e2
    have f3 : (m : Int) * u3 + t = q * y := by exact_mod_cast e3
    have f4 : (m : Int) * u4 + z = x + (m - t) := by
      have : ((m * u4 + z : Nat) : Int) = ((x + (m - t) : Nat) : Int) := by rw [e4]
      rw [Int.natCast_add, Int.natCast_add, Int.natCast_mul, Int.natCast_sub (by omega)] at this
      exact this
    have f5 : (m : Int) * u5 + r' = r := by exact_mod_cast e5
    have f6 : (m : Int) * u6 + s' = s := by exact_mod_cast e6
    have f7 : (s : Int) * q + left = r := by exact_mod_cast e7
    exact inv_key f1 f2 f3 f4 f5 f6 f7
  have : ((z * a % m : Nat) : Int) = ((left % m : Nat) : Int) := by
    rw [Int.natCast_emod, Int.natCast_emod, Int.natCast_mul, key, Int.add_mul_emod_self_left]
  exact_mod_cast this

theorem euclid_inv (a m : Nat) (hm : 1 < m) : ∀ s r x y : Nat, Nat.gcd r s = 1 → 1 ≤ s → s < m → r ≤ m → x < m → y < m → x * a % m = r % m → y * a % m = s % m →
    ∃ (N : Nat) (R S X Y : Nat → Nat), R N = r ∧ S N = s ∧ X N = x ∧ Y N = y ∧ S 0 = 1 ∧ Y 0 * a % m = 1 ∧ (∀ j, j ≤ N → R j ≤ m ∧ S j < m ∧ X j < m ∧ Y j < m) ∧
      ∀ j, j < N → 1 < S (j + 1) ∧ R j = S (j + 1) ∧ S j = R (j + 1) % S (j + 1) ∧ X j = Y (j + 1) ∧ Y j = subN (X (j + 1)) (mulN (R (j + 1) / S (j + 1)) (Y (j + 1)) m) m := by
  intro s
  induction s using Nat.strongRecOn with
  | ind s ih =>
    intro r x y hg hs hsm hr hx hy h1 h2
    by_cases e : s = 1
    · subst e
      refine ⟨0, fun _ => r, fun _ => 1, fun _ => x, fun _ => y, rfl, rfl, rfl, rfl, rfl, ?_, fun _ _ => ⟨hr, hsm, hx, hy⟩, fun j hj => absurd hj (by omega)⟩
      rw [h2, Nat.mod_eq_of_lt hm]
    · have ll : r % s < s := Nat.mod_lt _ (by omega)
      have lz : subN x (mulN (r / s) y m) m < m := by rw [subN_def]; exact Nat.mod_lt _ (by omega)
      have hg2 : Nat.gcd s (r % s) = 1 := by rw [← hg, Nat.gcd_comm r s, Nat.gcd_rec s r, Nat.gcd_comm]
      have l1 : 1 ≤ r % s := by
        rcases Nat.eq_zero_or_pos (r % s) with h | h
        · rw [h, Nat.gcd_zero_right] at hg2; omega
        · exact h
      obtain ⟨N, R, S, X, Y, k1, k2, k3, k4, k5, k6, k7, k8⟩ := ih (r % s) ll s y (subN x (mulN (r / s) y m) m) hg2 l1 (by omega) (by omega) hy lz h2 (inv_step (by omega) h1 h2)
      have ne : ∀ j, j ≤ N → ¬ j = N + 1 := fun j hj => by omega
      refine ⟨N + 1, fun j => if j = N + 1 then r else R j, fun j => if j = N + 1 then s else S j, fun j => if j = N + 1 then x else X j, fun j => if j = N + 1 then y else Y j, if_pos rfl, if_pos rfl, if_pos rfl, if_pos rfl, ?_, ?_, ?_, ?_⟩
      · show (if 0 = N + 1 then s else S 0) = 1
        rw [if_neg (by omega)]; exact k5
      · show (if 0 = N + 1 then y else Y 0) * a % m = 1
        rw [if_neg (by omega)]; exact k6
      · intro j hj
        show (if j = N + 1 then r else R j) ≤ m ∧ (if j = N + 1 then s else S j) < m ∧ (if j = N + 1 then x else X j) < m ∧ (if j = N + 1 then y else Y j) < m
        by_cases ej : j = N + 1
        · rw [if_pos ej, if_pos ej, if_pos ej, if_pos ej]; exact ⟨hr, hsm, hx, hy⟩
        · rw [if_neg ej, if_neg ej, if_neg ej, if_neg ej]; exact k7 j (by omega)
      · intro j hj
        show 1 < (if j + 1 = N + 1 then s else S (j + 1)) ∧ (if j = N + 1 then r else R j) = (if j + 1 = N + 1 then s else S (j + 1)) ∧ (if j = N + 1 then s else S j) = (if j + 1 = N + 1 then r else R (j + 1)) % (if j + 1 = N + 1 then s else S (j + 1)) ∧ (if j = N + 1 then x else X j) = (if j + 1 = N + 1 then y else Y (j + 1)) ∧
          (if j = N + 1 then y else Y j) = subN (if j + 1 = N + 1 then x else X (j + 1)) (mulN ((if j + 1 = N + 1 then r else R (j + 1)) / (if j + 1 = N + 1 then s else S (j + 1))) (if j + 1 = N + 1 then y else Y (j + 1)) m) m
        rw [if_neg (ne j (by omega)), if_neg (ne j (by omega)), if_neg (ne j (by omega)), if_neg (ne j (by omega))]
        by_cases ej : j = N
        · subst ej
          rw [if_pos rfl, if_pos rfl, if_pos rfl, if_pos rfl, k1, k2, k3, k4]
          exact ⟨by omega, rfl, rfl, rfl, rfl⟩
        · rw [if_neg (by omega), if_neg (by omega), if_neg (by omega), if_neg (by omega)]
          exact k8 j (by omega)

/-- The inverse, or nothing. -/
noncomputable def invN (a m : Nat) : Nat := by
  classical exact if h : ∃ y, y < m ∧ y * a % m = 1 then h.choose else 0
theorem inv_one {a m y y' : Nat} (hy : y < m) (hy' : y' < m) (h : y * a % m = 1) (h' : y' * a % m = 1) : y = y' := by
  have e1 : y * (y' * a) % m = y % m := by rw [Nat.mul_mod, h', Nat.mul_one, Nat.mod_mod]
  have e2 : y' * (y * a) % m = y' % m := by rw [Nat.mul_mod, h, Nat.mul_one, Nat.mod_mod]
  rw [Nat.mul_left_comm, e2, Nat.mod_eq_of_lt hy, Nat.mod_eq_of_lt hy'] at e1
  exact e1.symm
theorem invN_is {a m y : Nat} (hy : y < m) (h : y * a % m = 1) : invN a m = y := by
  unfold invN
  rw [dif_pos ⟨y, hy, h⟩]
  exact inv_one (Exists.choose_spec (p := fun y => y < m ∧ y * a % m = 1) ⟨y, hy, h⟩).1 hy (Exists.choose_spec (p := fun y => y < m ∧ y * a % m = 1) ⟨y, hy, h⟩).2 h
end Go.Proofs.Ytdmdkdodfngjiaa
