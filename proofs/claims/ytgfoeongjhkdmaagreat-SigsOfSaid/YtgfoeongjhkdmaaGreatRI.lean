/- The contract of divides.Div by one word. -/
import Derived.Test.YtgfoeongjhkdmaaGreatRNext
import Derived.Test.YtgfoeongjhkdmaaGreatRDiv64
set_option linter.unusedVariables false
set_option linter.unusedSimpArgs false
namespace Go.Proofs.YtgfoeongjhkdmaaGreat
open Go.RowKit
@[go_sem] theorem equalIn_zero (a : Nat) (w : World) : (Op.equalIn 10000 24 (.agg (nl a).toArray) (.agg #[.int .u64 0, .int .u64 0, .int .u64 0, .int .u64 0])).run Tryz.prog w = .ok (eqN a 0) w := by
  rw [xCs]; exact equalIn_num a 0 w
structure Wo (hi lo b q r : Nat) : Prop where
  q : (hi * 18446744073709551616 + lo) / b = q
  r : (hi * 18446744073709551616 + lo) % b = r
theorem Wo.call {hi lo b q r : Nat} (h : Wo hi lo b q r) (h1 : hi < b) (h2 : b < 18446744073709551616) (h3 : lo < 18446744073709551616) (w : World) :
    Calls Tryz.prog 82 #[.int .u64 (hi : Int), .int .u64 (lo : Int), .int .u64 (b : Int)] w fun e w' =>
    e = .returned (.tuple #[.int .u64 (q : Int), .int .u64 (r : Int)]) ∧ Below w.heap.size w w' := by
  have := div64_any hi lo b h1 h2 h3 w
  rwa [h.q, h.r] at this
theorem Wo.eq {hi lo b q r : Nat} (h : Wo hi lo b q r) : hi * 18446744073709551616 + lo = b * q + r := by
  rw [← h.q, ← h.r]; exact (Nat.div_add_mod _ _).symm
theorem Wo.lt {hi lo b q r : Nat} (h : Wo hi lo b q r) (hb : 0 < b) : r < b := by
  rw [← h.r]; exact Nat.mod_lt _ hb
theorem Wo.word {hi lo b q r : Nat} (h : Wo hi lo b q r) (h1 : hi < b) (h3 : lo < 18446744073709551616) : q < 18446744073709551616 := by
  rw [← h.q, Nat.div_lt_iff_lt_mul (by omega)]
  have : (hi + 1) * 18446744073709551616 ≤ b * 18446744073709551616 := Nat.mul_le_mul_right _ h1
  rw [Nat.mul_comm 18446744073709551616 b]
  omega
attribute [local irreducible] Calls
end Go.Proofs.YtgfoeongjhkdmaaGreat
namespace Go.Proofs.YtgfoeongjhkdmaaGreat
open Go.RowKit
end Go.Proofs.YtgfoeongjhkdmaaGreat
namespace Go.Proofs.YtgfoeongjhkdmaaGreat
open Go.RowKit
theorem Rep.tail {B0 : Nat} {w0 : World} {p : Nat × Obj} {L : List (Nat × Obj)} {w : World} (h : Rep B0 w0 (p :: L) w) : Rep B0 w0 L w :=
  ⟨h.below, h.le, fun q hq => h.own q (.tail _ hq), (List.nodup_cons.1 h.uniq).2⟩
end Go.Proofs.YtgfoeongjhkdmaaGreat
