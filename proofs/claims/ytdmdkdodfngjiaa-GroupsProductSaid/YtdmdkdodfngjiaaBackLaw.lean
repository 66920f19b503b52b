/- The walk of balefirelaw03.DividesBack. -/
import Derived.Test.YtdmdkdodfngjiaaLaw03
set_option linter.unusedSimpArgs false
set_option linter.unusedVariables false
namespace Go.Proofs.Ytdmdkdodfngjiaa
open Go.RowKit
attribute [local irreducible] Calls

theorem m_lit {a b l h : Nat} (ha : a < B) (hb : b < B) (hl : a * b % B = l) (hh : a * b / B = h) (w : World) : Calls Try.prog 53 #[num a, num b] w fun e w' =>
    e = .returned (.tuple #[num l, num h]) ∧ Below w.heap.size w w' := by
  have := mul_any a b ha hb w
  rw [hh, ← num_mod (a * b), hl] at this
  exact this
theorem a_lit {a b s : Nat} {c : Int} (ha : a < B) (hb : b < B) (hs : (a + b) % B = s) (hc : (((a + b) / B : Nat) : Int) = c) (w : World) : Calls Try.prog 54 #[num a, num b] w fun e w' =>
    e = .returned (.tuple #[num s, .int .u64 c]) ∧ Below w.heap.size w w' := by
  have := add_any a b ha hb w
  rw [hc, ← num_mod (a + b), hs] at this
  exact this
theorem cmp_lit {a b : Nat} {c : Int} (ha : a < B) (hb : b < B) (hc : cmpN a b = c) (w : World) : Calls Try.prog 56 #[num a, num b] w fun e w' =>
    e = .returned (.int .i64 c) ∧ Below w.heap.size w w' := by
  have := cmp_any a b ha hb w
  rwa [hc] at this

end Go.Proofs.Ytdmdkdodfngjiaa
