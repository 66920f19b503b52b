import Derived.Test.YtaaahfjpnggkbaaGreatDoorZG
import Derived.Test.YtaaahfjpnggkbaaGreatDoorZA
set_option linter.unusedSimpArgs false
set_option linter.unusedVariables false
set_option maxRecDepth 100000
set_option maxHeartbeats 20000000
namespace Go.Proofs.YtaaahfjpnggkbaaGreatDoor
open Go.RowKit
section
noncomputable def powN : Nat → Nat → Nat → Nat := opq fun a n m => a ^ n % m
theorem powN_def (a n m : Nat) : powN a n m = a ^ n % m := by unfold powN; rw [xBu]
noncomputable def pR : Nat → Nat → Nat → Nat → Nat := opq fun a n m j => a ^ (n / 2 ^ j) % m
theorem pR_def (a n m j : Nat) : pR a n m j = a ^ (n / 2 ^ j) % m := by unfold pR; rw [xBu]
theorem pR_top {a n m N : Nat} (h1 : 1 < m) (h : n < 2 ^ N) : pR a n m N = 1 := by
 rw [pR_def, Nat.div_eq_of_lt h, Nat.pow_zero, Nat.mod_eq_of_lt h1]
theorem pR_zero (a n m : Nat) : pR a n m 0 = powN a n m := by rw [pR_def, powN_def, Nat.pow_zero, Nat.div_one]
theorem pR_lt {m : Nat} (hm : 1 < m) (a n j : Nat) : pR a n m j < m := by rw [pR_def]; exact Nat.mod_lt _ (by omega)
theorem xHj (a n m j : Nat) : ∃ T, mulN (pR a n m (j + 1)) (pR a n m (j + 1)) m = T ∧ ((n / 2 ^ j % 2 = 0 ∧ pR a n m j = T) ∨ (n / 2 ^ j % 2 = 1 ∧ mulN T a m = pR a n m j)) := by
 refine ⟨_, rfl, ?_⟩
 have hA : n / 2 ^ j = 2 * (n / 2 ^ (j + 1)) + n / 2 ^ j % 2 := by
  rw [Nat.pow_succ, ← Nat.div_div_eq_div_mul]; omega
 simp only [xCe, pR_def]
 generalize n / 2 ^ (j + 1) = A at *
 generalize n / 2 ^ j = D at *
 have h2 : D % 2 = 0 ∨ D % 2 = 1 := by omega
 rcases h2 with h | h
 ·left
  refine ⟨h, ?_⟩
  rw [h, Nat.add_zero] at hA
  rw [← Nat.mul_mod, hA, Nat.two_mul, Nat.pow_add]
 ·right
  refine ⟨h, ?_⟩
  rw [h] at hA
  rw [Nat.mul_mod, Nat.mod_mod, ← Nat.mul_mod, Nat.mul_mod, ← Nat.mul_mod (a ^ A), ← Nat.mul_mod, hA, Nat.pow_succ, Nat.two_mul, Nat.pow_add]
end
section
section
variable {P : Program} {ops : Array Oper} {B0 : Nat} {w0 : World} {L : List (Nat × Obj)} {ts : List Nat} {r acc : List Oper} {o : Oper} {a : Act} {K : List Oper → Act → Prop} {I : (World → Prop) → Prop} {C : World → Prop}
theorem xEx (hw : Region.wanted o (yielded ops a.tmps) = true) {f : FuncId} {xs : List Operand} {us : Array TypeId} (hop : o.op = .call { callee := .value (.func f), args := xs.toArray, argTypes := us }) {vs : List Value} {v : Value} (hx' : evL a xs = some vs)
  (hent : ∀ w, (callFunc f vs.toArray).run P w = .ok (.enter f vs.toArray) w) (hq : ∀ w, Rep B0 w0 L w → Calls P f vs.toArray w fun e w' => e = .returned v ∧ Rep B0 w0 L w')
  {a' : Act} (ha : a.put o.dst v = a') (h : xBr P ops I (Rep B0 w0 L) K ts r acc a') : xBr P ops I (Rep B0 w0 L) K (0 :: ts) (o :: r) acc a :=
 xIg hw (fun w hR => by
  have e : (execOp a.eval o).run P w = .ok (.enter f vs.toArray) w := by
   have hx := xDr hx'
   unfold execOp
   simp only [hop, resolve, Deferred.ofValue, Act.eval, Sem.run_bind, Sem.run_pure, Result.andThen_ok, hx]
   have := hent w
   simpa [invoke] using this
  rw [e]
  exact (hq w hR).mono fun e' w' ⟨he, hb⟩ => ⟨he, hb⟩) ha h
end
end
section
attribute [local irreducible] Calls
section
variable {P : Program} {ops : Array Oper} {B0 : Nat} {w0 : World} {L : List (Nat × Obj)} {ts : List Nat} {r acc : List Oper} {o : Oper} {a : Act} {K : List Oper → Act → Prop} {I : (World → Prop) → Prop} {C : World → Prop}
theorem hd_makeFunc {m : Nat} (hm : m ≠ 2) (hw : Region.wanted o (yielded ops a.tmps) = true) {f : Fn} {xs ys : List Operand} (hop : o.op = .makeFunc f xs.toArray ys.toArray) {vs us : List Value} (hx' : evL a xs = some vs) (hy' : evL a ys = some us)
  {a' : Act} (ha : a.put o.dst (.func f vs.toArray us.toArray) = a') (h : xBr P ops I C K ts r acc a') : xBr P ops I C K (m :: ts) (o :: r) acc a :=
 xCw hm hw (fun w => by
  have hx := xDr hx'
  have hy := xDr hy'
  unfold execOp
  simp only [hop, hx, hy]
  rfl) ha h
end
section
variable {B0 : Nat} {w0 w : World} {L : List (Nat × Obj)}
theorem exp_word {bm : Nat} {m : Nat} (hm : (bm, Obj.cells (nl m).toArray 24) ∈ L) {a b r : Nat} (ha : a < m) (hb : b < m) (hs : m < 18446744073709551616) (hr : mulN a b m = r) (hR : Rep B0 w0 L w) :
  Calls Tryz.prog 216 #[.int .u64 (a : Int), .int .u64 (b : Int), .pointer (some ⟨bm, 0, none⟩)] w fun e w' => e = .returned (.int .u64 (r : Int)) ∧ Rep B0 w0 L w' := by
 have em : wd m 0 = (m : Int) := by rw [xFa]; unfold w64; omega
 have w1 := fun w => word_any a b m ha (by omega) hs w
 rw [← xCe, hr, ← em] at w1
 clear hr
 have hl : (nl m)[0]? = some (.int .u64 (wd m 0)) := rfl
 clear em
 go_enter Tryz.func216, Tryz.ntmps216
 go_wp2_with (first | (refine' aAq hR ?_; clear hR; intro blk w hR) | (refine' aBq hR ?_; clear hR; intro blk w hR) | (refine' aPq hR ?_) | (refine' aQq hR ?_) | (refine' aRq hR ?_) | (refine' aFq hR ?_; clear hR; intro w hR) | (refine' aGq hR ?_; clear hR; intro w hR) | (go_at_call 217; refine (w1 _).mono ?_; rintro e w ⟨rfl, hb⟩; replace hR := hR.call hb; clear hb))
 go_ret
 exact ⟨rfl, hR⟩
end
end
end Go.Proofs.YtaaahfjpnggkbaaGreatDoor
