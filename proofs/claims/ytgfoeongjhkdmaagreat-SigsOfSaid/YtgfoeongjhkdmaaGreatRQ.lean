/- Powers that go round: the plain part. -/
import Derived.Test.YtgfoeongjhkdmaaGreatRN
import Derived.Test.YtgfoeongjhkdmaaGreatRA
set_option linter.unusedVariables false
set_option linter.unusedSimpArgs false
namespace Go.Proofs.YtgfoeongjhkdmaaGreat
open Go.RowKit
noncomputable def powN : Nat → Nat → Nat → Nat := opq fun a n m => a ^ n % m
theorem powN_def (a n m : Nat) : powN a n m = a ^ n % m := by unfold powN; rw [xCe]
noncomputable def pR : Nat → Nat → Nat → Nat → Nat := opq fun a n m j => a ^ (n / 2 ^ j) % m
theorem pR_def (a n m j : Nat) : pR a n m j = a ^ (n / 2 ^ j) % m := by unfold pR; rw [xCe]
theorem pR_top {a n m N : Nat} (h1 : 1 < m) (h : n < 2 ^ N) : pR a n m N = 1 := by
  rw [pR_def, Nat.div_eq_of_lt h, Nat.pow_zero, Nat.mod_eq_of_lt h1]
theorem pR_zero (a n m : Nat) : pR a n m 0 = powN a n m := by rw [pR_def, powN_def, Nat.pow_zero, Nat.div_one]
theorem pR_lt {m : Nat} (hm : 1 < m) (a n j : Nat) : pR a n m j < m := by rw [pR_def]; exact Nat.mod_lt _ (by omega)
theorem pow_round (a n m j : Nat) : ∃ T, mulN (pR a n m (j + 1)) (pR a n m (j + 1)) m = T ∧ ((n / 2 ^ j % 2 = 0 ∧ pR a n m j = T) ∨ (n / 2 ^ j % 2 = 1 ∧ mulN T a m = pR a n m j)) := by
  refine ⟨_, rfl, ?_⟩
  have hA : n / 2 ^ j = 2 * (n / 2 ^ (j + 1)) + n / 2 ^ j % 2 := by
    rw [Nat.pow_succ, ← Nat.div_div_eq_div_mul]; omega
  simp only [xCv, pR_def]
  generalize n / 2 ^ (j + 1) = A at *
  generalize n / 2 ^ j = D at *
  have h2 : D % 2 = 0 ∨ D % 2 = 1 := by omega
  rcases h2 with h | h
  · left
    refine ⟨h, ?_⟩
    rw [h, Nat.add_zero] at hA
    rw [← Nat.mul_mod, hA, Nat.two_mul, Nat.pow_add]
  · right
    refine ⟨h, ?_⟩
    rw [h] at hA
    rw [Nat.mul_mod, Nat.mod_mod, ← Nat.mul_mod, Nat.mul_mod, ← Nat.mul_mod (a ^ A), ← Nat.mul_mod, hA, Nat.pow_succ, Nat.two_mul, Nat.pow_add]
end Go.Proofs.YtgfoeongjhkdmaaGreat
namespace Go.Proofs.YtgfoeongjhkdmaaGreat
open Go.RowKit
attribute [local irreducible] Calls
section
variable {P : Program} {ops : Array Oper} {B0 : Nat} {w0 : World} {L : List (Nat × Obj)} {ts : List Nat} {r acc : List Oper} {o : Oper} {a : Act} {K : List Oper → Act → Prop} {I : (World → Prop) → Prop} {C : World → Prop}
theorem hd_makeFunc {m : Nat} (hm : m ≠ 2) (hw : Region.wanted o (yielded ops a.tmps) = true) {f : Fn} {xs ys : List Operand} (hop : o.op = .makeFunc f xs.toArray ys.toArray) {vs us : List Value} (hx' : evL a xs = some vs) (hy' : evL a ys = some us)
    {a' : Act} (ha : a.put o.dst (.func f vs.toArray us.toArray) = a') (h : xCm P ops I C K ts r acc a') : xCm P ops I C K (m :: ts) (o :: r) acc a :=
  xDo hm hw (fun w => by
    have hx := xDb hx'
    have hy := xDb hy'
    unfold execOp
    simp only [hop, hx, hy]
    rfl) ha h
end
section
variable {B0 : Nat} {w0 w : World} {L : List (Nat × Obj)}
set_option maxRecDepth 100000 in
set_option maxHeartbeats 1000000 in
theorem exp_word {bm : Nat} {m : Nat} (hm : (bm, Obj.cells (nl m).toArray 24) ∈ L) {a b r : Nat} (ha : a < m) (hb : b < m) (hs : m < 18446744073709551616) (hr : mulN a b m = r) (hR : Rep B0 w0 L w) :
    Calls Tryz.prog 48 #[.int .u64 (a : Int), .int .u64 (b : Int), .pointer (some ⟨bm, 0, none⟩)] w fun e w' => e = .returned (.int .u64 (r : Int)) ∧ Rep B0 w0 L w' := by
  have em : wd m 0 = (m : Int) := by rw [wd_eq]; unfold w64; omega
  have w1 := fun w => word_any a b m ha (by omega) hs w
  rw [← xCv, hr, ← em] at w1
  clear hr
  have hl : (nl m)[0]? = some (.int .u64 (wd m 0)) := rfl
  clear em
  go_enter Tryz.func48, Tryz.ntmps48
  go_wp2_with (first | (refine' xAb hR rfl rfl rfl ?_; clear hR; intro blk w hR) | (refine' xAa hR rfl rfl inferInstance ?_; clear hR; intro blk w hR) | (refine' aFq hR rfl rfl rfl inferInstance ?_) | (refine' aGq hR rfl rfl rfl inferInstance ?_) | (refine' aHq hR rfl rfl rfl inferInstance ?_) | (refine' aDq hR rfl rfl rfl inferInstance rfl ?_; clear hR; intro w hR) | (refine' aEq hR rfl rfl rfl inferInstance rfl rfl ?_; clear hR; intro w hR) | (go_at_call 49; refine (w1 _).mono ?_; rintro e w ⟨rfl, hb⟩; replace hR := hR.call hb; clear hb))
  go_ret
  exact ⟨rfl, hR⟩
end
end Go.Proofs.YtgfoeongjhkdmaaGreat
