/- The contract of mods.Inv. -/
import Derived.Test.YtdagdfcbnhfdkaaMInvWalk
import Derived.Test.YtdagdfcbnhfdkaaMExpDeed
import Derived.Test.YtdagdfcbnhfdkaaMF
set_option linter.unusedVariables false
set_option linter.unusedSimpArgs false
namespace Go.Proofs.Ytdagdfcbnhfdkaa
open Go.RowKit
attribute [local irreducible] Calls
end Go.Proofs.Ytdagdfcbnhfdkaa
namespace Go.Proofs.Ytdagdfcbnhfdkaa
open Go.RowKit
attribute [local irreducible] Calls
theorem msub_lit {a b m r : Nat} {e : Int} (ha : a < B) (hb : b < B) (hm : m < B) (hr : (if okM a b m then subN a b m else 0) = r) (he : (if okM a b m then (0 : Int) else 1) = e) (w : World) : Calls Try.prog 74 #[num a, num b, num m] w fun e' w' =>
    e' = .returned (.tuple #[num r, .int .i64 e]) ∧ Below w.heap.size w w' := by
  have := mods_sub a b m ha hb hm w
  rwa [hr, he] at this
theorem mmul_lit {a b m r : Nat} {e : Int} (ha : a < B) (hb : b < B) (hm : m < B) (hr : (if okM a b m then mulN a b m else 0) = r) (he : (if okM a b m then (0 : Int) else 1) = e) (w : World) : Calls Try.prog 49 #[num a, num b, num m] w fun e' w' =>
    e' = .returned (.tuple #[num r, .int .i64 e]) ∧ Below w.heap.size w w' := by
  have := mods_mul a b m ha hb hm w
  rwa [hr, he] at this
theorem mexp_lit {a n m r : Nat} {e : Int} (ha : a < B) (hn : n < B) (hm : m < B) (hr : (if okE a m then powN a n m else 0) = r) (he : (if okE a m then (0 : Int) else 1) = e) (w : World) : Calls Try.prog 86 #[num a, num n, num m] w fun e' w' =>
    e' = .returned (.tuple #[num r, .int .i64 e]) ∧ Below w.heap.size w w' := by
  have := mods_exp a n m ha hn hm w
  rwa [hr, he] at this
end Go.Proofs.Ytdagdfcbnhfdkaa
namespace Go.Proofs.Ytdagdfcbnhfdkaa
open Go.RowKit
attribute [local irreducible] Calls
end Go.Proofs.Ytdagdfcbnhfdkaa
namespace Go.Proofs.Ytdagdfcbnhfdkaa
open Go.RowKit
section
variable {P : Program} {ops : Array Oper} {ts : List Nat} {r acc : List Oper} {o : Oper} {a : Act} {K : List Oper → Act → Prop} {I : (World → Prop) → Prop} {C : World → Prop}
theorem xCq {m : Nat} (hm : m ≠ 2) (hw : Region.wanted o (yielded ops a.tmps) = true) {op : UnOp} {t : TypeId} {x : Operand} (hop : o.op = .unOp op t x) {vx v : Value} (hx' : ev a x = some vx) (hrun : ∀ w, (Op.unary op vx).run P w = .ok v w)
    {a' : Act} (ha : a.put o.dst v = a') (h : xBu P ops I C K ts r acc a') : xBu P ops I C K (m :: ts) (o :: r) acc a :=
  xCj hm hw (fun w => by have hx := xBt hx'; unfold execOp; simp only [hop, hx]; exact ok_value _ (hrun w)) ha h
end
theorem mul_lt' {m : Nat} (h : 1 < m) (a b : Nat) : mulN a b m < m := by rw [mulN_def]; exact Nat.mod_lt _ (by omega)
end Go.Proofs.Ytdagdfcbnhfdkaa
namespace Go.Proofs.Ytdagdfcbnhfdkaa
open Go.RowKit
instance : CellT Try.prog 162 := .mk' (by kernel_rfl) (by kernel_rfl)
theorem pow_lt' {m : Nat} (h : 1 < m) (a i : Nat) : powN a i m < m := by rw [powN_def]; exact Nat.mod_lt _ (by omega)
end Go.Proofs.Ytdagdfcbnhfdkaa
