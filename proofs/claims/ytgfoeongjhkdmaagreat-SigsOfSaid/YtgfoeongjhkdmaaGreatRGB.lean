/- Signatures (and proofs) as values: how two are compared. -/
import Derived.Test.YtgfoeongjhkdmaaGreatRWide
import Derived.Laws.StructEq
import Derived.Test.YtgfoeongjhkdmaaGreatRB
import Derived.Test.YtgfoeongjhkdmaaGreatRGE
set_option linter.unusedVariables false
set_option linter.unusedSimpArgs false
namespace Go.Proofs.YtgfoeongjhkdmaaGreat
open Go.RowKit
theorem equalIn_num_at (d : Nat) (a b : Nat) (w : World) : (Op.equalIn (d + 2) 24 (.agg (nl a).toArray) (.agg (nl b).toArray)).run Tryz.prog w = .ok (eqN a b) w := by
  have hp : ∀ (x i : Nat), i < 4 → ∀ v, (nl x)[i]? = some v → (part 22 (nl x).toArray i).run Tryz.prog w = .ok v w := fun x i hi v hv => by
    have hagg : (isAgg 22).run Tryz.prog w = .ok false w := by
      unfold isAgg
      rw [Sem.run_bind, run_underlying Tryz.underlying22 w]
      rfl
    unfold part
    rw [Sem.run_bind, hagg]
    simp only [Result.andThen_ok, Bool.false_eq_true, if_false, List.getElem?_toArray, hv]
    rfl
  have ho : ∃ i, Tryz.prog.info? 22 = some i := by
    cases h : Tryz.prog.info? 22 with
    | some i => exact ⟨i, rfl⟩
    | none => exact absurd (show (Tryz.prog.info? 22).isSome = true by kernel_rfl) (by rw [h]; decide)
  obtain ⟨i, hi⟩ := ho
  have hu : Tryz.prog.underlying 24 = some (.array 4 22) := Tryz.underlying24
  rw [show (d + 2 : Nat) = (d + 1) + 1 from rfl, run_equalIn_array w (d + 1) (nl a).toArray (nl b).toArray hu hi, cells_u64]
  have he : ∀ x y : Int, (Op.equalIn (d + 1) 22 (.int .u64 x) (.int .u64 y)).run Tryz.prog w = .ok (x == y) w := fun x y => run_equalIn_int w d 22 .u64 .u64 x y Tryz.underlying22
  simp only [List.range, List.range.loop, Op.eqItems, Nat.zero_mul, Nat.one_mul, Nat.mul_one, Sem.run_bind, hp a 0 (by omega) _ rfl, hp b 0 (by omega) _ rfl, hp a 1 (by omega) _ rfl, hp b 1 (by omega) _ rfl, hp a 2 (by omega) _ rfl, hp b 2 (by omega) _ rfl,
    hp a 3 (by omega) _ rfl, hp b 3 (by omega) _ rfl, he, Result.andThen_ok, Sem.run_ite, Sem.run_pure]
  by_cases h : a % B = b % B
  · have e : nl a = nl b := by rw [← nl_mod a, h, nl_mod]
    unfold nl at e
    simp only [List.cons.injEq, Value.int.injEq, true_and, and_true] at e
    obtain ⟨h0, h1, h2, h3⟩ := e
    simp [eqN_def, h, h0, h1, h2, h3]
  · have e : ¬ (wd a 0 = wd b 0 ∧ wd a 1 = wd b 1 ∧ wd a 2 = wd b 2 ∧ wd a 3 = wd b 3) := fun ⟨h0, h1, h2, h3⟩ => h (nl_inj (by unfold nl; rw [h0, h1, h2, h3]))
    have ee : eqN a b = false := by simp [eqN_def, h]
    rw [ee]
    by_cases h0 : wd a 0 = wd b 0 <;> by_cases h1 : wd a 1 = wd b 1 <;> by_cases h2 : wd a 2 = wd b 2 <;> by_cases h3 : wd a 3 = wd b 3 <;> simp_all
theorem part_num0 (a b : Nat) (w : World) : (part 24 (nl2 a b).toArray 0).run Tryz.prog w = .ok (.agg (nl a).toArray) w := by
  unfold nl2 nl
  kernel_rfl
theorem part_num4 (a b : Nat) (w : World) : (part 24 (nl2 a b).toArray 4).run Tryz.prog w = .ok (.agg (nl b).toArray) w := by
  unfold nl2 nl
  kernel_rfl
noncomputable def eqS : Nat → Nat → Nat → Nat → Bool := opq fun a b c d => eqN a c && eqN b d
theorem eqS_def (a b c d : Nat) : eqS a b c d = (eqN a c && eqN b d) := by unfold eqS; rw [xCe]
theorem eqS_self (a b : Nat) : eqS a b a b = true := by rw [eqS_def, eqN_self, eqN_self]; rfl
theorem eqFields_two (a b c d : Nat) (fs : List Field) (h : fs.map (fun f => (f.type, f.offset, f.name == "_")) = [(24, 0, false), (24, 4, false)]) (w : World) : (Op.eqFields 9999 (nl2 a b).toArray (nl2 c d).toArray fs).run Tryz.prog w = .ok (eqS a b c d) w := by
  have hl : fs.length = 2 := by have := congrArg List.length h; simpa using this
  obtain ⟨f, g, rfl⟩ : ∃ f g, fs = [f, g] := by
    match fs, hl with
    | [f, g], _ => exact ⟨f, g, rfl⟩
  · simp only [List.map_cons, List.map_nil, List.cons.injEq, Prod.mk.injEq, beq_eq_false_iff_ne, and_true] at h
    obtain ⟨⟨t1, o1, n1⟩, t2, o2, n2⟩ := h
    simp only [Op.eqFields, ne_eq, n1, n2, t1, t2, o1, o2, not_false_eq_true, if_true, Sem.run_bind, part_num0, part_num4, Result.andThen_ok, equalIn_num_at 9997 a c w, equalIn_num_at 9997 b d w, Sem.run_ite, Sem.run_pure, eqS_def]
    cases eqN a c <;> cases eqN b d <;> rfl
@[go_sem high] theorem equalIn_sig (a b c d : Nat) (w : World) : (Op.equalIn 10000 30 (.agg (nl2 a b).toArray) (.agg (nl2 c d).toArray)).run Tryz.prog w = .ok (eqS a b c d) w := by
  rw [show (10000 : Nat) = 9999 + 1 from rfl, run_equalIn_struct w 9999 30 _ _ (by kernel_rfl) (by kernel_rfl)]
  exact eqFields_two a b c d _ (by kernel_rfl) w
end Go.Proofs.YtgfoeongjhkdmaaGreat
namespace Go.Proofs.YtgfoeongjhkdmaaGreat
open Go.ChangeShapes Go.WideShapes Go.ChangeAt Go.RowKit
noncomputable def gvL (s d k : Nat) (H : Nat → Nat) (c S : Nat) : List Value := nl s ++ (nl d ++ (nl k ++ (u8s 32 H ++ nl2 c S)))
noncomputable abbrev gv (s d k : Nat) (H : Nat → Nat) (c S : Nat) : Value := .agg (gvL s d k H c S).toArray
theorem gv_s (s d k : Nat) (H : Nat → Nat) (c S : Nat) : ((gvL s d k H c S).drop 0).take 4 = nl s := rfl
theorem gv_d (s d k : Nat) (H : Nat → Nat) (c S : Nat) : ((gvL s d k H c S).drop 4).take 4 = nl d := rfl
theorem gv_k (s d k : Nat) (H : Nat → Nat) (c S : Nat) : ((gvL s d k H c S).drop 8).take 4 = nl k := rfl
theorem gv_h (s d k : Nat) (H : Nat → Nat) (c S : Nat) : ((gvL s d k H c S).drop 12).take 32 = u8s 32 H := by
  show (u8s 32 H ++ nl2 c S).take 32 = _
  rw [List.take_append_of_le_length (by simp)]
  exact List.take_of_length_le (by simp)
theorem gv_g (s d k : Nat) (H : Nat → Nat) (c S : Nat) : (gvL s d k H c S).drop 44 = nl2 c S := by
  have e : (gvL s d k H c S).drop 44 = ((gvL s d k H c S).drop 12).drop 32 := by rw [List.drop_drop]
  rw [e]
  show (u8s 32 H ++ nl2 c S).drop 32 = _
  rw [List.drop_append_of_le_length (by simp), List.drop_of_length_le (by simp), List.nil_append]
theorem gv_z (s d k : Nat) (H : Nat → Nat) (c S : Nat) : ((gvL s d k H c S).drop 44).take 8 = nl2 c S := by
  rw [gv_g]; rfl
instance rowGiven : RowT Tryz.prog 32 52 := .mk' (by kernel_rfl) (by kernel_rfl)
theorem cells_given : Tryz.prog.cellsOf 32 = 52 := by kernel_rfl
def tsGiven : List TypeId := List.replicate 12 22 ++ (List.replicate 32 5 ++ List.replicate 8 22)
theorem types_given : Tryz.prog.cellTypes Tryz.prog.depth 32 = some tsGiven := by kernel_rfl
theorem bytes_at (l : List Value) (i n : Nat) (hl : i + n ≤ l.length) (hb : ∀ k, (h : k < n) → ∃ m : Nat, m < 256 ∧ l[i + k]? = some (.int .u8 (m : Int))) : ∃ H : Nat → Nat, (∀ j, H j < 256) ∧ (l.drop i).take n = u8s n H := by
  refine ⟨fun j => if h : j < n then (hb j h).choose else 0, fun j => ?_, ?_⟩
  · show (if h : j < n then (hb j h).choose else 0) < 256
    split
    · rename_i h
      exact (hb j h).choose_spec.1
    · decide
  · refine List.ext_getElem? fun j => ?_
    by_cases h : j < n
    · rw [List.getElem?_take_of_lt h, List.getElem?_drop, u8s_at h]
      exact (hb j h).choose_spec.2.trans (by simp only [h, dif_pos])
    · rw [List.getElem?_eq_none (by simp; omega), List.getElem?_eq_none (by simp; omega)]
set_option maxRecDepth 100000 in
theorem is_given {W : World} {r : Reach} {b0 : Nat} {v : Value} (hval : Value.okWide Tryz.prog W r b0 32 v) : ∃ s d k c S H, s < B ∧ d < B ∧ k < B ∧ c < B ∧ S < B ∧ (∀ j, H j < 256) ∧ v = gv s d k H c S := by
  obtain ⟨cs, rfl, hsz, h2⟩ : ∃ cs, v = .agg cs ∧ cs.size = Tryz.prog.cellsOf 32 ∧ Row.okWide Tryz.prog W r b0 32 cs := by
    simpa [Value.okWide, Tryz.underlying32] using hval
  rw [cells_given] at hsz
  obtain ⟨l⟩ := cs
  have hl : l.length = 52 := by simpa using hsz
  have f := fun i hi hts => flat_at (l := l) h2 types_given i hi hts
  obtain ⟨s, ls, es⟩ := f 0 (by omega) (by decide)
  obtain ⟨d, ld, ed⟩ := f 4 (by omega) (by decide)
  obtain ⟨k, lk, ek⟩ := f 8 (by omega) (by decide)
  obtain ⟨c, lc, ec⟩ := f 44 (by omega) (by decide)
  obtain ⟨S, lS, eS⟩ := f 48 (by omega) (by decide)
  obtain ⟨H, hH, eH⟩ := bytes_at l 12 32 (by omega) (fun j hj => by
    obtain ⟨m, lm, em⟩ := cell_byte (row_cell (i := 12 + j) (v := l[12 + j]) h2 types_given (by simp) ((by decide : ∀ j, j < 32 → tsGiven[(12 + j) % tsGiven.length]? = some 5) j hj))
    exact ⟨m, lm, by rw [← em]; simp⟩)
  refine ⟨s, d, k, c, S, H, ls, ld, lk, lc, lS, hH, ?_⟩
  have e0 := seg l 0 4
  have e1 := seg l 4 4
  have e2 := seg l 8 4
  have e3 := seg l 12 32
  have e4 := seg l 44 4
  have e5 := seg l 48 4
  rw [List.drop_zero] at e0
  rw [show l.drop (48 + 4) = [] from List.drop_of_length_le (by omega), List.append_nil, eS] at e5
  rw [show l.drop (44 + 4) = l.drop 48 from rfl, e5, ec] at e4
  rw [show l.drop (12 + 32) = l.drop 44 from rfl, e4, eH] at e3
  rw [show l.drop (8 + 4) = l.drop 12 from rfl, e3, ek] at e2
  rw [show l.drop (4 + 4) = l.drop 8 from rfl, e2, ed] at e1
  rw [List.drop_zero] at es
  rw [show l.drop (0 + 4) = l.drop 4 from rfl, e1, es] at e0
  rw [e0]
  rfl
end Go.Proofs.YtgfoeongjhkdmaaGreat
