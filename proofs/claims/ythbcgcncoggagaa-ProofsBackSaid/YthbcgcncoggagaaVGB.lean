/- Signatures (and proofs) as values: how two are compared. -/
import Derived.Test.YthbcgcncoggagaaVWide
import Derived.Laws.StructEq
import Derived.Test.YthbcgcncoggagaaVGA
set_option linter.unusedVariables false
set_option linter.unusedSimpArgs false
namespace Go.Proofs.Ythbcgcncoggagaa
open Go.RowKit
theorem equalIn_num_at (d : Nat) (a b : Nat) (w : World) : (Op.equalIn (d + 2) 24 (.agg (nl a).toArray) (.agg (nl b).toArray)).run Try.prog w = .ok (eqN a b) w := by
  have hp : ∀ (x i : Nat), i < 4 → ∀ v, (nl x)[i]? = some v → (part 22 (nl x).toArray i).run Try.prog w = .ok v w := fun x i hi v hv => by
    have hagg : (isAgg 22).run Try.prog w = .ok false w := by
      unfold isAgg
      rw [Sem.run_bind, run_underlying Try.underlying22 w]
      rfl
    unfold part
    rw [Sem.run_bind, hagg]
    simp only [Result.andThen_ok, Bool.false_eq_true, if_false, List.getElem?_toArray, hv]
    rfl
  have ho : ∃ i, Try.prog.info? 22 = some i := by
    cases h : Try.prog.info? 22 with
    | some i => exact ⟨i, rfl⟩
    | none => exact absurd (show (Try.prog.info? 22).isSome = true by kernel_rfl) (by rw [h]; decide)
  obtain ⟨i, hi⟩ := ho
  have hu : Try.prog.underlying 24 = some (.array 4 22) := Try.underlying24
  rw [show (d + 2 : Nat) = (d + 1) + 1 from rfl, run_equalIn_array w (d + 1) (nl a).toArray (nl b).toArray hu hi, cells_u64]
  have he : ∀ x y : Int, (Op.equalIn (d + 1) 22 (.int .u64 x) (.int .u64 y)).run Try.prog w = .ok (x == y) w := fun x y => run_equalIn_int w d 22 .u64 .u64 x y Try.underlying22
  simp only [List.range, List.range.loop, Op.eqItems, Nat.zero_mul, Nat.one_mul, Nat.mul_one, Sem.run_bind, hp a 0 (by omega) _ rfl, hp b 0 (by omega) _ rfl, hp a 1 (by omega) _ rfl, hp b 1 (by omega) _ rfl, hp a 2 (by omega) _ rfl, hp b 2 (by omega) _ rfl,
    hp a 3 (by omega) _ rfl, hp b 3 (by omega) _ rfl, he, Result.andThen_ok, Sem.run_ite, Sem.run_pure]
  by_cases h : a % B = b % B
  · have e : nl a = nl b := by rw [← nl_mod a, h, nl_mod]
    unfold nl at e
    simp only [List.cons.injEq, Value.int.injEq, true_and, and_true] at e
    obtain ⟨h0, h1, h2, h3⟩ := e
    simp [eqN_def, h, h0, h1, h2, h3]
  · have e : ¬ (wd a 0 = wd b 0 ∧ wd a 1 = wd b 1 ∧ wd a 2 = wd b 2 ∧ wd a 3 = wd b 3) := fun ⟨h0, h1, h2, h3⟩ => h (nl_inj (by unfold nl; rw [h0, h1, h2, h3]))
    have ee : eqN a b = false := by simp [eqN_def, h]
    rw [ee]
    by_cases h0 : wd a 0 = wd b 0 <;> by_cases h1 : wd a 1 = wd b 1 <;> by_cases h2 : wd a 2 = wd b 2 <;> by_cases h3 : wd a 3 = wd b 3 <;> simp_all
theorem part_num0 (a b : Nat) (w : World) : (part 24 (nl2 a b).toArray 0).run Try.prog w = .ok (.agg (nl a).toArray) w := by
  unfold nl2 nl
  kernel_rfl
theorem part_num4 (a b : Nat) (w : World) : (part 24 (nl2 a b).toArray 4).run Try.prog w = .ok (.agg (nl b).toArray) w := by
  unfold nl2 nl
  kernel_rfl
noncomputable def eqS : Nat → Nat → Nat → Nat → Bool := opq fun a b c d => eqN a c && eqN b d
theorem eqS_def (a b c d : Nat) : eqS a b c d = (eqN a c && eqN b d) := by unfold eqS; rw [xCb]
theorem eqS_self (a b : Nat) : eqS a b a b = true := by rw [eqS_def, eqN_self, eqN_self]; rfl
theorem eqFields_two (a b c d : Nat) (fs : List Field) (h : fs.map (fun f => (f.type, f.offset, f.name == "_")) = [(24, 0, false), (24, 4, false)]) (w : World) : (Op.eqFields 9999 (nl2 a b).toArray (nl2 c d).toArray fs).run Try.prog w = .ok (eqS a b c d) w := by
  have hl : fs.length = 2 := by have := congrArg List.length h; simpa using this
  obtain ⟨f, g, rfl⟩ : ∃ f g, fs = [f, g] := by
    match fs, hl with
    | [f, g], _ => exact ⟨f, g, rfl⟩
  · simp only [List.map_cons, List.map_nil, List.cons.injEq, Prod.mk.injEq, beq_eq_false_iff_ne, and_true] at h
    obtain ⟨⟨t1, o1, n1⟩, t2, o2, n2⟩ := h
    simp only [Op.eqFields, ne_eq, n1, n2, t1, t2, o1, o2, not_false_eq_true, if_true, Sem.run_bind, part_num0, part_num4, Result.andThen_ok, equalIn_num_at 9997 a c w, equalIn_num_at 9997 b d w, Sem.run_ite, Sem.run_pure, eqS_def]
    cases eqN a c <;> cases eqN b d <;> rfl
@[go_sem high] theorem equalIn_proof (a b c d : Nat) (w : World) : (Op.equalIn 10000 28 (.agg (nl2 a b).toArray) (.agg (nl2 c d).toArray)).run Try.prog w = .ok (eqS a b c d) w := by
  rw [show (10000 : Nat) = 9999 + 1 from rfl, run_equalIn_struct w 9999 28 _ _ (by kernel_rfl) (by kernel_rfl)]
  exact eqFields_two a b c d _ (by kernel_rfl) w
end Go.Proofs.Ythbcgcncoggagaa
namespace Go.Proofs.Ythbcgcncoggagaa
open Go.RowKit
theorem nl_one : [Value.int .u64 1, .int .u64 0, .int .u64 0, .int .u64 0] = nl 1 := by unfold nl; simp [wd_def]
@[go_sem] theorem equalIn_one (a : Nat) (w : World) : (Op.equalIn 10000 24 (.agg (nl a).toArray) (.agg #[.int .u64 1, .int .u64 0, .int .u64 0, .int .u64 0])).run Try.prog w = .ok (eqN a 1) w := by
  rw [show (Value.agg #[.int .u64 1, .int .u64 0, .int .u64 0, .int .u64 0]) = .agg (nl 1).toArray by rw [← nl_one]]; exact equalIn_num a 1 w
end Go.Proofs.Ythbcgcncoggagaa
