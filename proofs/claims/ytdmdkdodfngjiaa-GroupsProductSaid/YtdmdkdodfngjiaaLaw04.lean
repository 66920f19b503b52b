/- The laws' own helpers of layer 4: of, is, Below, alive. -/
import Derived.Test.YtdmdkdodfngjiaaInvDeed
set_option linter.unusedSimpArgs false
set_option linter.unusedVariables false
namespace Go.Proofs.Ytdmdkdodfngjiaa
open Go.RowKit
attribute [local irreducible] Calls

theorem madd_lit {a b m r : Nat} {e : Int} (ha : a < B) (hb : b < B) (hm : m < B) (hr : (if okM a b m then (a + b) % m else 0) = r) (he : (if okM a b m then (0 : Int) else 1) = e) (w : World) : Calls Try.prog 23 #[num a, num b, num m] w fun e' w' =>
    e' = .returned (.tuple #[num r, .int .i64 e]) ∧ Below w.heap.size w w' := by
  have := mods_add a b m ha hb hm w
  rwa [hr, he] at this
theorem msub_lit {a b m r : Nat} {e : Int} (ha : a < B) (hb : b < B) (hm : m < B) (hr : (if okM a b m then subN a b m else 0) = r) (he : (if okM a b m then (0 : Int) else 1) = e) (w : World) : Calls Try.prog 24 #[num a, num b, num m] w fun e' w' =>
    e' = .returned (.tuple #[num r, .int .i64 e]) ∧ Below w.heap.size w w' := by
  have := mods_sub a b m ha hb hm w
  rwa [hr, he] at this
theorem mmul_lit {a b m r : Nat} {e : Int} (ha : a < B) (hb : b < B) (hm : m < B) (hr : (if okM a b m then mulN a b m else 0) = r) (he : (if okM a b m then (0 : Int) else 1) = e) (w : World) : Calls Try.prog 25 #[num a, num b, num m] w fun e' w' =>
    e' = .returned (.tuple #[num r, .int .i64 e]) ∧ Below w.heap.size w w' := by
  have := mods_mul a b m ha hb hm w
  rwa [hr, he] at this
theorem mexp_lit {a n m r : Nat} {e : Int} (ha : a < B) (hn : n < B) (hm : m < B) (hr : (if okE a m then powN a n m else 0) = r) (he : (if okE a m then (0 : Int) else 1) = e) (w : World) : Calls Try.prog 26 #[num a, num n, num m] w fun e' w' =>
    e' = .returned (.tuple #[num r, .int .i64 e]) ∧ Below w.heap.size w w' := by
  have := mods_exp a n m ha hn hm w
  rwa [hr, he] at this
theorem minv_lit {a m r : Nat} {e : Int} (ha : a < B) (hm : m < B) (hr : (if okE a m then invM a m else 0) = r) (he : invE a m = e) (w : World) : Calls Try.prog 27 #[num a, num m] w fun e' w' =>
    e' = .returned (.tuple #[num r, .int .i64 e]) ∧ Below w.heap.size w w' := by
  have := mods_inv a m ha hm w
  rwa [hr, he] at this

end Go.Proofs.Ytdmdkdodfngjiaa
