/- The contracts of RecordsSize (the sum) and of great of balefirelaw06. -/
import Derived.Test.YtgfoeongjhkdmaaGreatRF
set_option linter.unusedVariables false
set_option linter.unusedSimpArgs false
namespace Go.Proofs.YtgfoeongjhkdmaaGreat
open Go.RowKit
attribute [local irreducible] Calls
def totL (xss : List (List Nat)) (i : Nat) : Nat := ((xss.take i).map List.length).sum
theorem totL_succ (xss : List (List Nat)) {i : Nat} (h : i < xss.length) : totL xss (i + 1) = totL xss i + (xss.getD i []).length := by
  unfold totL
  rw [List.take_add_one, List.getElem?_eq_getElem h, List.getD_eq_getElem?_getD, List.getElem?_eq_getElem h, List.map_append, List.sum_append]
  simp
theorem totL_mono (xss : List (List Nat)) : ∀ (i j : Nat), i ≤ j → j ≤ xss.length → totL xss i ≤ totL xss j
  | i, 0, h, _ => by obtain rfl : i = 0 := by omega
                     exact Nat.le_refl _
  | i, j + 1, h, hj => by
    by_cases e : i = j + 1
    · rw [e]; exact Nat.le_refl _
    · have := totL_mono xss i j (by omega) (by omega)
      rw [totL_succ xss (by omega)]; omega
theorem totL_part (xss : List (List Nat)) {j : Nat} (h : j < xss.length) : (xss.getD j []).length ≤ totL xss xss.length := by
  have := totL_mono xss (j + 1) xss.length (by omega) (Nat.le_refl _)
  rw [totL_succ xss h] at this
  omega
theorem encR_tot (xss : List (List Nat)) : ∀ i, i ≤ xss.length → (encR xss i).length = 4 * i + totL xss i
  | 0, _ => rfl
  | i + 1, h => by
    rw [encR_succ xss (by omega), totL_succ xss (by omega), List.length_append, List.length_append, xBr, encR_tot xss i (by omega)]
    omega
end Go.Proofs.YtgfoeongjhkdmaaGreat
namespace Go.Proofs.YtgfoeongjhkdmaaGreat
open Go.RowKit
attribute [local irreducible] Calls
end Go.Proofs.YtgfoeongjhkdmaaGreat
