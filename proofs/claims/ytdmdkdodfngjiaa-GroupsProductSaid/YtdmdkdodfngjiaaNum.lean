/- Long numbers as values of the program; what the loaded program's types are. -/
import Derived.Test.YtdmdkdodfngjiaaProg
import Derived.Test.YtdmdkdodfngjiaaOrd
import Derived.ChangeKeysEq
set_option linter.unusedSimpArgs false
namespace Go.Proofs.Ytdmdkdodfngjiaa
open Go.RowKit

/-- 2^256, behind a name. -/
noncomputable def B : Nat := opq (2 ^ 256)
theorem B_eq : B = 18446744073709551616 * 18446744073709551616 * 18446744073709551616 * 18446744073709551616 := (opq_eq _).trans (by decide)
theorem B_pos : 0 < B := by rw [B_eq]; decide
/-- Word number i of a. -/
noncomputable def wd : Nat → Nat → Int := opq fun a i => ((a / 18446744073709551616 ^ i % 18446744073709551616 : Nat) : Int)
theorem wd_def (a i : Nat) : wd a i = ((a / 18446744073709551616 ^ i % 18446744073709551616 : Nat) : Int) := by unfold wd; rw [opq_eq]
/-- A long number's cells. -/
noncomputable def nl (a : Nat) : List Value := [.int .u64 (wd a 0), .int .u64 (wd a 1), .int .u64 (wd a 2), .int .u64 (wd a 3)]
/-- A long number. -/
noncomputable abbrev num (a : Nat) : Value := .agg (nl a).toArray

theorem wd_lo (a i : Nat) : 0 ≤ wd a i := by rw [wd_def]; omega
theorem wd_hi (a i : Nat) : wd a i < 18446744073709551616 := by rw [wd_def]; omega

/-- Words, put together. -/
def ofW (a b c d : Nat) : Nat := a + 18446744073709551616 * (b + 18446744073709551616 * (c + 18446744073709551616 * d))

theorem wd_ofW (a b c d : Nat) (ha : a < 18446744073709551616) (hb : b < 18446744073709551616) (hc : c < 18446744073709551616) (hd : d < 18446744073709551616) :
    wd (ofW a b c d) 0 = a ∧ wd (ofW a b c d) 1 = b ∧ wd (ofW a b c d) 2 = c ∧ wd (ofW a b c d) 3 = d := by
  have e1 : ofW a b c d / 18446744073709551616 = b + 18446744073709551616 * (c + 18446744073709551616 * d) := by unfold ofW; omega
  have e2 : (b + 18446744073709551616 * (c + 18446744073709551616 * d)) / 18446744073709551616 = c + 18446744073709551616 * d := by omega
  have e3 : (c + 18446744073709551616 * d) / 18446744073709551616 = d := by omega
  have p2 : ofW a b c d / 18446744073709551616 ^ 2 = c + 18446744073709551616 * d := by
    rw [Nat.pow_succ, Nat.pow_one, ← Nat.div_div_eq_div_mul, e1, e2]
  have p3 : ofW a b c d / 18446744073709551616 ^ 3 = d := by
    rw [Nat.pow_succ, ← Nat.div_div_eq_div_mul, p2, e3]
  simp only [wd_def]
  rw [p2, p3, Nat.pow_zero, Nat.pow_one, e1]
  refine ⟨?_, ?_, ?_, ?_⟩
  · unfold ofW; omega
  · omega
  · omega
  · omega
theorem nl_ofW (a b c d : Nat) (ha : a < 18446744073709551616) (hb : b < 18446744073709551616) (hc : c < 18446744073709551616) (hd : d < 18446744073709551616) :
    nl (ofW a b c d) = [.int .u64 a, .int .u64 b, .int .u64 c, .int .u64 d] := by
  obtain ⟨h0, h1, h2, h3⟩ := wd_ofW a b c d ha hb hc hd
  unfold nl
  rw [h0, h1, h2, h3]
/-- Every list of four words is a number's. -/
theorem nl_of (a b c d : Int) (ha : 0 ≤ a ∧ a < 18446744073709551616) (hb : 0 ≤ b ∧ b < 18446744073709551616) (hc : 0 ≤ c ∧ c < 18446744073709551616) (hd : 0 ≤ d ∧ d < 18446744073709551616) :
    [.int .u64 a, .int .u64 b, .int .u64 c, .int .u64 d] = nl (ofW a.toNat b.toNat c.toNat d.toNat) := by
  rw [nl_ofW _ _ _ _ (by omega) (by omega) (by omega) (by omega)]
  rw [Int.toNat_of_nonneg ha.1, Int.toNat_of_nonneg hb.1, Int.toNat_of_nonneg hc.1, Int.toNat_of_nonneg hd.1]
theorem ofW_lt (a b c d : Nat) (ha : a < 18446744073709551616) (hb : b < 18446744073709551616) (hc : c < 18446744073709551616) (hd : d < 18446744073709551616) : ofW a b c d < B := by
  rw [B_eq]; unfold ofW; omega
/-- A number's words. -/
def w64 (a i : Nat) : Nat := a / 18446744073709551616 ^ i % 18446744073709551616
theorem wd_eq (a i : Nat) : wd a i = (w64 a i : Int) := wd_def a i
theorem w64_lt (a i : Nat) : w64 a i < 18446744073709551616 := Nat.mod_lt _ (by decide)
theorem ofW_w64 (a : Nat) : ofW (w64 a 0) (w64 a 1) (w64 a 2) (w64 a 3) = a % B := by
  have d2 : a / 18446744073709551616 ^ 2 = a / 18446744073709551616 / 18446744073709551616 := by rw [Nat.pow_succ, Nat.pow_one, Nat.div_div_eq_div_mul]
  have d3 : a / 18446744073709551616 ^ 3 = a / 18446744073709551616 / 18446744073709551616 / 18446744073709551616 := by rw [Nat.pow_succ, ← Nat.div_div_eq_div_mul, d2]
  unfold w64 ofW
  rw [d2, d3, B_eq, Nat.pow_zero, Nat.pow_one]
  omega
theorem nl_mod (a : Nat) : nl (a % B) = nl a := by
  rw [← ofW_w64, nl_ofW _ _ _ _ (w64_lt _ _) (w64_lt _ _) (w64_lt _ _) (w64_lt _ _)]
  unfold nl
  simp only [wd_eq]
theorem num_mod (a : Nat) : num (a % B) = num a := by unfold num; rw [nl_mod]
theorem nl_inj {a b : Nat} (h : nl a = nl b) : a % B = b % B := by
  unfold nl at h
  simp only [List.cons.injEq, Value.int.injEq, true_and, and_true] at h
  obtain ⟨h0, h1, h2, h3⟩ := h
  rw [wd_eq, wd_eq] at h0 h1 h2 h3
  rw [← ofW_w64 a, ← ofW_w64 b, show w64 a 0 = w64 b 0 by omega, show w64 a 1 = w64 b 1 by omega, show w64 a 2 = w64 b 2 by omega, show w64 a 3 = w64 b 3 by omega]

/-- Are two numbers one? -/
noncomputable def eqN : Nat → Nat → Bool := opq fun a b => decide (a % B = b % B)
theorem eqN_def (a b : Nat) : eqN a b = decide (a % B = b % B) := by unfold eqN; rw [opq_eq]
theorem eqN_self (a : Nat) : eqN a a = true := by simp [eqN_def]
theorem eqN_yes {a b : Nat} (h : a = b) : eqN a b = true := by rw [h]; exact eqN_self b
theorem eqN_no {a b : Nat} (ha : a < B) (hb : b < B) (h : a ≠ b) : eqN a b = false := by simp [eqN_def, Nat.mod_eq_of_lt ha, Nat.mod_eq_of_lt hb, h]

instance : RowT Try.prog 24 4 := .mk' (by kernel_rfl) (by kernel_rfl)
instance : CellT Try.prog 22 := .mk' (by kernel_rfl) (by kernel_rfl)
instance : CellT Try.prog 3 := .mk' (by kernel_rfl) (by kernel_rfl)
instance : CellT Try.prog 4 := .mk' (by kernel_rfl) (by kernel_rfl)
instance : CellT Try.prog 26 := .mk' (by kernel_rfl) (by kernel_rfl)
instance : ZeroT Try.prog 24 [.int .u64 0, .int .u64 0, .int .u64 0, .int .u64 0] := ⟨.agg #[.int .u64 0, .int .u64 0, .int .u64 0, .int .u64 0], by kernel_rfl, rfl⟩

@[go_sem] theorem index_num0 (a : Nat) (w : World) : (Instr.index 24 (.agg (nl a).toArray) (.int .i64 0)).run Try.prog w = .ok (.int .u64 (wd a 0)) w := by unfold nl; kernel_rfl
@[go_sem] theorem index_num1 (a : Nat) (w : World) : (Instr.index 24 (.agg (nl a).toArray) (.int .i64 1)).run Try.prog w = .ok (.int .u64 (wd a 1)) w := by unfold nl; kernel_rfl
@[go_sem] theorem index_num2 (a : Nat) (w : World) : (Instr.index 24 (.agg (nl a).toArray) (.int .i64 2)).run Try.prog w = .ok (.int .u64 (wd a 2)) w := by unfold nl; kernel_rfl
@[go_sem] theorem index_num3 (a : Nat) (w : World) : (Instr.index 24 (.agg (nl a).toArray) (.int .i64 3)).run Try.prog w = .ok (.int .u64 (wd a 3)) w := by unfold nl; kernel_rfl

theorem mixed : Try.prog.follows .mixedOrders = true := by kernel_rfl

theorem nl_zero : [Value.int .u64 0, .int .u64 0, .int .u64 0, .int .u64 0] = nl 0 := by unfold nl; simp [wd_def]
theorem num_zero : (Value.agg #[.int .u64 0, .int .u64 0, .int .u64 0, .int .u64 0]) = num 0 := by unfold num; rw [← nl_zero]

theorem cells_u64 : Try.prog.cellsOf 22 = 1 := by kernel_rfl
@[go_sem] theorem equalIn_num (a b : Nat) (w : World) : (Op.equalIn 10000 24 (.agg (nl a).toArray) (.agg (nl b).toArray)).run Try.prog w = .ok (eqN a b) w := by
  have hp : ∀ (x i : Nat), i < 4 → ∀ v, (nl x)[i]? = some v → (part 22 (nl x).toArray i).run Try.prog w = .ok v w := fun x i hi v hv => by
    have hagg : (isAgg 22).run Try.prog w = .ok false w := by
      unfold isAgg
      rw [Sem.run_bind, run_underlying Try.underlying22 w]
      rfl
    unfold part
    rw [Sem.run_bind, hagg]
    simp only [Result.andThen_ok, Bool.false_eq_true, if_false, List.getElem?_toArray, hv]
    rfl
  have ho : ∃ i, Try.prog.info? 22 = some i := by
    cases h : Try.prog.info? 22 with
    | some i => exact ⟨i, rfl⟩
    | none => exact absurd (show (Try.prog.info? 22).isSome = true by kernel_rfl) (by rw [h]; decide)
  obtain ⟨i, hi⟩ := ho
  have hu : Try.prog.underlying 24 = some (.array 4 22) := Try.underlying24
  rw [show (10000 : Nat) = 9999 + 1 from rfl, run_equalIn_array w 9999 (nl a).toArray (nl b).toArray hu hi, cells_u64]
  have he : ∀ x y : Int, (Op.equalIn 9999 22 (.int .u64 x) (.int .u64 y)).run Try.prog w = .ok (x == y) w := fun x y => run_equalIn_int w 9998 22 .u64 .u64 x y Try.underlying22
  simp only [List.range, List.range.loop, Op.eqItems, Nat.zero_mul, Nat.one_mul, Nat.mul_one, Sem.run_bind, hp a 0 (by omega) _ rfl, hp b 0 (by omega) _ rfl, hp a 1 (by omega) _ rfl, hp b 1 (by omega) _ rfl, hp a 2 (by omega) _ rfl, hp b 2 (by omega) _ rfl,
    hp a 3 (by omega) _ rfl, hp b 3 (by omega) _ rfl, he, Result.andThen_ok, Sem.run_ite, Sem.run_pure]
  by_cases h : a % B = b % B
  · have e : nl a = nl b := by rw [← nl_mod a, h, nl_mod]
    unfold nl at e
    simp only [List.cons.injEq, Value.int.injEq, true_and, and_true] at e
    obtain ⟨h0, h1, h2, h3⟩ := e
    simp [eqN_def, h, h0, h1, h2, h3]
  · have e : ¬ (wd a 0 = wd b 0 ∧ wd a 1 = wd b 1 ∧ wd a 2 = wd b 2 ∧ wd a 3 = wd b 3) := fun ⟨h0, h1, h2, h3⟩ => h (nl_inj (by unfold nl; rw [h0, h1, h2, h3]))
    have ee : eqN a b = false := by simp [eqN_def, h]
    rw [ee]
    by_cases h0 : wd a 0 = wd b 0 <;> by_cases h1 : wd a 1 = wd b 1 <;> by_cases h2 : wd a 2 = wd b 2 <;> by_cases h3 : wd a 3 = wd b 3 <;> simp_all

/-- Whatever the walk has made of words is a number again. -/
theorem num_fold (a b c d : Int) (ha : 0 ≤ a ∧ a < 18446744073709551616) (hb : 0 ≤ b ∧ b < 18446744073709551616) (hc : 0 ≤ c ∧ c < 18446744073709551616) (hd : 0 ≤ d ∧ d < 18446744073709551616) :
    Value.agg #[.int .u64 a, .int .u64 b, .int .u64 c, .int .u64 d] = num (ofW a.toNat b.toNat c.toNat d.toNat) := by
  unfold num
  rw [← nl_of a b c d ha hb hc hd]
end Go.Proofs.Ytdmdkdodfngjiaa
