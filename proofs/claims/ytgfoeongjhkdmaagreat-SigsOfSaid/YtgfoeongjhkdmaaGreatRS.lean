/- The contract of mods.Inv. -/
import Derived.Test.YtgfoeongjhkdmaaGreatRInvWalk
import Derived.Test.YtgfoeongjhkdmaaGreatRExpDeed
import Derived.Test.YtgfoeongjhkdmaaGreatRM
set_option linter.unusedVariables false
set_option linter.unusedSimpArgs false
namespace Go.Proofs.YtgfoeongjhkdmaaGreat
open Go.RowKit
attribute [local irreducible] Calls
end Go.Proofs.YtgfoeongjhkdmaaGreat
namespace Go.Proofs.YtgfoeongjhkdmaaGreat
open Go.RowKit
attribute [local irreducible] Calls
theorem madd_lit {a b m r : Nat} {e : Int} (ha : a < B) (hb : b < B) (hm : m < B) (hr : (if okM a b m then (a + b) % m else 0) = r) (he : (if okM a b m then (0 : Int) else 1) = e) (w : World) : Calls Tryz.prog 31 #[num a, num b, num m] w fun e' w' =>
    e' = .returned (.tuple #[num r, .int .i64 e]) ∧ Below w.heap.size w w' := by
  have := mods_add a b m ha hb hm w
  rwa [hr, he] at this
theorem msub_lit {a b m r : Nat} {e : Int} (ha : a < B) (hb : b < B) (hm : m < B) (hr : (if okM a b m then subN a b m else 0) = r) (he : (if okM a b m then (0 : Int) else 1) = e) (w : World) : Calls Tryz.prog 40 #[num a, num b, num m] w fun e' w' =>
    e' = .returned (.tuple #[num r, .int .i64 e]) ∧ Below w.heap.size w w' := by
  have := mods_sub a b m ha hb hm w
  rwa [hr, he] at this
theorem mmul_lit {a b m r : Nat} {e : Int} (ha : a < B) (hb : b < B) (hm : m < B) (hr : (if okM a b m then mulN a b m else 0) = r) (he : (if okM a b m then (0 : Int) else 1) = e) (w : World) : Calls Tryz.prog 30 #[num a, num b, num m] w fun e' w' =>
    e' = .returned (.tuple #[num r, .int .i64 e]) ∧ Below w.heap.size w w' := by
  have := mods_mul a b m ha hb hm w
  rwa [hr, he] at this
theorem mexp_lit {a n m r : Nat} {e : Int} (ha : a < B) (hn : n < B) (hm : m < B) (hr : (if okE a m then powN a n m else 0) = r) (he : (if okE a m then (0 : Int) else 1) = e) (w : World) : Calls Tryz.prog 26 #[num a, num n, num m] w fun e' w' =>
    e' = .returned (.tuple #[num r, .int .i64 e]) ∧ Below w.heap.size w w' := by
  have := mods_exp a n m ha hn hm w
  rwa [hr, he] at this
end Go.Proofs.YtgfoeongjhkdmaaGreat
namespace Go.Proofs.YtgfoeongjhkdmaaGreat
open Go.RowKit
attribute [local irreducible] Calls
end Go.Proofs.YtgfoeongjhkdmaaGreat
namespace Go.Proofs.YtgfoeongjhkdmaaGreat
open Go.RowKit
theorem mul_lt' {m : Nat} (h : 1 < m) (a b : Nat) : mulN a b m < m := by rw [xCv]; exact Nat.mod_lt _ (by omega)
end Go.Proofs.YtgfoeongjhkdmaaGreat
namespace Go.Proofs.YtgfoeongjhkdmaaGreat
open Go.RowKit
instance : CellT Tryz.prog 110 := .mk' (by kernel_rfl) (by kernel_rfl)
theorem pow_lt' {m : Nat} (h : 1 < m) (a i : Nat) : powN a i m < m := by rw [powN_def]; exact Nat.mod_lt _ (by omega)
end Go.Proofs.YtgfoeongjhkdmaaGreat
