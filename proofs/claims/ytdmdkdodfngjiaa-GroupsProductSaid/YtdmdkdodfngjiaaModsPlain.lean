/- What the laws of layer 4 want of plain numbers. -/
import Derived.Test.YtdmdkdodfngjiaaLaw04
import Derived.Test.YtdmdkdodfngjiaaWideLaw
set_option linter.unusedSimpArgs false
set_option linter.unusedVariables false
namespace Go.Proofs.Ytdmdkdodfngjiaa
open Go.RowKit

section
variable {P : Program} {ops : Array Oper} {ts : List Nat} {r acc : List Oper} {o : Oper} {a : Act} {K : List Oper → Act → Prop} {I : (World → Prop) → Prop} {C : World → Prop}
theorem hd_unOp {m : Nat} (hm : m ≠ 2) (hw : Region.wanted o (yielded ops a.tmps) = true) {op : UnOp} {t : TypeId} {x : Operand} (hop : o.op = .unOp op t x) {vx v : Value} (hx' : ev a x = some vx) (hrun : ∀ w, (Op.unary op vx).run P w = .ok v w)
    {a' : Act} (ha : a.put o.dst v = a') (h : headM P ops I C K ts r acc a') : headM P ops I C K (m :: ts) (o :: r) acc a :=
  hd_pure hm hw (fun w => by have hx := ev_eval hx'; unfold execOp; simp only [hop, hx]; exact ok_value _ (hrun w)) ha h
end

theorem invE_fine {a m : Nat} (h : okE a m) : invE a m = 0 ∨ invE a m = 7 := by
  unfold invE
  rw [if_pos h]
  by_cases hg : Nat.gcd a m = 1
  · exact .inl (if_pos hg)
  · exact .inr (if_neg hg)
theorem invE_not {a m : Nat} (h : ¬ okE a m) : invE a m = 1 := by
  unfold invE
  rw [if_neg h]

theorem add3 (a b c m : Nat) : ((a + b) % m + c) % m = (a + (b + c) % m) % m := by
  simp only [Nat.mod_add_mod, Nat.add_mod_mod, Nat.add_assoc]
theorem sub_add {a b m : Nat} (ha : a < m) (hb : b < m) : subN ((a + b) % m) b m = a := by
  rw [subN_def, Nat.mod_add_mod, show a + b + (m - b) = a + m by omega, Nat.add_mod_right, Nat.mod_eq_of_lt ha]
theorem add_sub {a b m : Nat} (ha : a < m) (hb : b < m) : (subN a b m + b) % m = a := by
  rw [subN_def, Nat.mod_add_mod, show a + (m - b) + b = a + m by omega, Nat.add_mod_right, Nat.mod_eq_of_lt ha]
theorem mul_comm' (a b m : Nat) : mulN a b m = mulN b a m := by rw [mulN_def, mulN_def, Nat.mul_comm]
theorem mul_lt' {m : Nat} (h : 1 < m) (a b : Nat) : mulN a b m < m := by rw [mulN_def]; exact Nat.mod_lt _ (by omega)
theorem mul_add' (a b c m : Nat) : mulN a ((b + c) % m) m = (mulN a b m + mulN a c m) % m := by
  simp only [mulN_def, Nat.mul_mod_mod, Nat.mul_add, Nat.mod_add_mod, Nat.add_mod_mod]
theorem mul_mul' (a b c m : Nat) : mulN (mulN a b m) c m = mulN a (mulN b c m) m := by
  simp only [mulN_def, Nat.mod_mul_mod, Nat.mul_mod_mod, Nat.mul_assoc]
theorem mul_mod' (a b m : Nat) : mulN (a % m) (b % m) m = a * b % m := by
  simp only [mulN_def, Nat.mod_mul_mod, Nat.mul_mod_mod]
theorem wid_join {a b m : Nat} (hm : m ≠ 0) : widN (a * b % B) (a * b / B) m = a * b % m := by
  rw [widN_def, if_neg hm, Nat.mul_comm (a * b / B) B, Nat.div_add_mod]
theorem wid_sum {a b m : Nat} (hm : m ≠ 0) : widN ((a + b) % B) ((a + b) / B) m = (a + b) % m := by
  rw [widN_def, if_neg hm, Nat.mul_comm ((a + b) / B) B, Nat.div_add_mod]
end Go.Proofs.Ytdmdkdodfngjiaa
