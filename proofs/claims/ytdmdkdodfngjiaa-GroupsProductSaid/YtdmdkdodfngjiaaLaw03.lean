/- The laws' own helpers of layer 3: of, alive. -/
import Derived.Test.YtdmdkdodfngjiaaWideOne
import Derived.Test.YtdmdkdodfngjiaaMul
set_option linter.unusedSimpArgs false
set_option linter.unusedVariables false
namespace Go.Proofs.Ytdmdkdodfngjiaa
open Go.RowKit

theorem alive_nums : ∃ X Y Z : Nat, X < B ∧ Y < B ∧ Z < B ∧ [Value.int .u64 0, .int .u64 0, .int .u64 0, .int .u64 256] = nl X ∧ [Value.int .u64 0, .int .u64 68719476736, .int .u64 0, .int .u64 0] = nl Y ∧
    [Value.int .u64 0, .int .u64 0, .int .u64 0, .int .u64 9223372036854775808] = nl Z ∧ quo0 X Y = Y ∧ rem0 X Y = 0 ∧ (if Y = 0 then (1 : Int) else 0) = 0 ∧ (if Z = 0 then (1 : Int) else 0) = 0 ∧ widN 5 1 Z = 5 := by
  refine ⟨ofW 0 0 0 256, ofW 0 68719476736 0 0, ofW 0 0 0 9223372036854775808, ofW_lt _ _ _ _ (by decide) (by decide) (by decide) (by decide), ofW_lt _ _ _ _ (by decide) (by decide) (by decide) (by decide), ofW_lt _ _ _ _ (by decide) (by decide) (by decide) (by decide),
    (nl_ofW _ _ _ _ (by decide) (by decide) (by decide) (by decide)).symm, (nl_ofW _ _ _ _ (by decide) (by decide) (by decide) (by decide)).symm, (nl_ofW _ _ _ _ (by decide) (by decide) (by decide) (by decide)).symm, ?_, ?_, ?_, ?_, ?_⟩
  · rw [quo0_def]; decide
  · rw [rem0_def]; decide
  · decide
  · decide
  · rw [widN_def, B_eq]; decide

theorem d_lit {a b q r : Nat} {e : Int} (ha : a < B) (hb : b < B) (hq : quo0 a b = q) (hr : rem0 a b = r) (he : (if b = 0 then (1 : Int) else 0) = e) (w : World) : Calls Try.prog 17 #[num a, num b] w fun e' w' =>
    e' = .returned (.tuple #[num q, num r, .int .i64 e]) ∧ Below w.heap.size w w' := by
  have := div_any a b ha hb w
  rwa [hq, hr, he] at this
theorem w_lit {a b m r : Nat} {e : Int} (ha : a < B) (hb : b < B) (hm : m < B) (hr : widN a b m = r) (he : (if m = 0 then (1 : Int) else 0) = e) (w : World) : Calls Try.prog 19 #[num a, num b, num m] w fun e' w' =>
    e' = .returned (.tuple #[num r, .int .i64 e]) ∧ Below w.heap.size w w' := by
  have := wide_any a b m ha hb hm w
  rwa [hr, he] at this
theorem c_lit {a b r : Nat} (ha : a < B) (hb : b < B) (hr : gcdN a b = r) (w : World) : Calls Try.prog 21 #[num a, num b] w fun e' w' =>
    e' = .returned (num r) ∧ Below w.heap.size w w' := by
  have := common_any a b ha hb w
  rwa [hr] at this
end Go.Proofs.Ytdmdkdodfngjiaa
