/- Long numbers as values of the program; what the loaded program's types are. -/
import Derived.Test.YtgfoeongjhkdmaaGreatProg
import Derived.Test.YtgfoeongjhkdmaaGreatRA
import Derived.ChangeKeysEq
import Derived.WalkKit
import Derived.Laws.BitsLemmas
import Derived.ProofKit
import Derived.OpenShut
set_option linter.unusedVariables false
set_option linter.unusedSimpArgs false
namespace Go.Proofs.YtgfoeongjhkdmaaGreat
open Go.RowKit
noncomputable def B : Nat := opq (2 ^ 256)
theorem B_eq : B = 18446744073709551616 * 18446744073709551616 * 18446744073709551616 * 18446744073709551616 := (xCe _).trans (by decide)
theorem B_pos : 0 < B := by rw [B_eq]; decide
noncomputable def wd : Nat → Nat → Int := opq fun a i => ((a / 18446744073709551616 ^ i % 18446744073709551616 : Nat) : Int)
theorem wd_def (a i : Nat) : wd a i = ((a / 18446744073709551616 ^ i % 18446744073709551616 : Nat) : Int) := by unfold wd; rw [xCe]
noncomputable def nl (a : Nat) : List Value := [.int .u64 (wd a 0), .int .u64 (wd a 1), .int .u64 (wd a 2), .int .u64 (wd a 3)]
noncomputable abbrev num (a : Nat) : Value := .agg (nl a).toArray
theorem wd_lo (a i : Nat) : 0 ≤ wd a i := by rw [wd_def]; omega
theorem wd_hi (a i : Nat) : wd a i < 18446744073709551616 := by rw [wd_def]; omega
def ofW (a b c d : Nat) : Nat := a + 18446744073709551616 * (b + 18446744073709551616 * (c + 18446744073709551616 * d))
theorem wd_ofW (a b c d : Nat) (ha : a < 18446744073709551616) (hb : b < 18446744073709551616) (hc : c < 18446744073709551616) (hd : d < 18446744073709551616) :
    wd (ofW a b c d) 0 = a ∧ wd (ofW a b c d) 1 = b ∧ wd (ofW a b c d) 2 = c ∧ wd (ofW a b c d) 3 = d := by
  have e1 : ofW a b c d / 18446744073709551616 = b + 18446744073709551616 * (c + 18446744073709551616 * d) := by unfold ofW; omega
  have e2 : (b + 18446744073709551616 * (c + 18446744073709551616 * d)) / 18446744073709551616 = c + 18446744073709551616 * d := by omega
  have e3 : (c + 18446744073709551616 * d) / 18446744073709551616 = d := by omega
  have p2 : ofW a b c d / 18446744073709551616 ^ 2 = c + 18446744073709551616 * d := by
    rw [Nat.pow_succ, Nat.pow_one, ← Nat.div_div_eq_div_mul, e1, e2]
  have p3 : ofW a b c d / 18446744073709551616 ^ 3 = d := by
    rw [Nat.pow_succ, ← Nat.div_div_eq_div_mul, p2, e3]
  simp only [wd_def]
  rw [p2, p3, Nat.pow_zero, Nat.pow_one, e1]
  refine ⟨?_, ?_, ?_, ?_⟩
  · unfold ofW; omega
  · omega
  · omega
  · omega
theorem nl_ofW (a b c d : Nat) (ha : a < 18446744073709551616) (hb : b < 18446744073709551616) (hc : c < 18446744073709551616) (hd : d < 18446744073709551616) :
    nl (ofW a b c d) = [.int .u64 a, .int .u64 b, .int .u64 c, .int .u64 d] := by
  obtain ⟨h0, h1, h2, h3⟩ := wd_ofW a b c d ha hb hc hd
  unfold nl
  rw [h0, h1, h2, h3]
theorem nl_of (a b c d : Int) (ha : 0 ≤ a ∧ a < 18446744073709551616) (hb : 0 ≤ b ∧ b < 18446744073709551616) (hc : 0 ≤ c ∧ c < 18446744073709551616) (hd : 0 ≤ d ∧ d < 18446744073709551616) :
    [.int .u64 a, .int .u64 b, .int .u64 c, .int .u64 d] = nl (ofW a.toNat b.toNat c.toNat d.toNat) := by
  rw [nl_ofW _ _ _ _ (by omega) (by omega) (by omega) (by omega)]
  rw [Int.toNat_of_nonneg ha.1, Int.toNat_of_nonneg hb.1, Int.toNat_of_nonneg hc.1, Int.toNat_of_nonneg hd.1]
theorem ofW_lt (a b c d : Nat) (ha : a < 18446744073709551616) (hb : b < 18446744073709551616) (hc : c < 18446744073709551616) (hd : d < 18446744073709551616) : ofW a b c d < B := by
  rw [B_eq]; unfold ofW; omega
def w64 (a i : Nat) : Nat := a / 18446744073709551616 ^ i % 18446744073709551616
theorem wd_eq (a i : Nat) : wd a i = (w64 a i : Int) := wd_def a i
theorem w64_lt (a i : Nat) : w64 a i < 18446744073709551616 := Nat.mod_lt _ (by decide)
theorem ofW_w64 (a : Nat) : ofW (w64 a 0) (w64 a 1) (w64 a 2) (w64 a 3) = a % B := by
  have d2 : a / 18446744073709551616 ^ 2 = a / 18446744073709551616 / 18446744073709551616 := by rw [Nat.pow_succ, Nat.pow_one, Nat.div_div_eq_div_mul]
  have d3 : a / 18446744073709551616 ^ 3 = a / 18446744073709551616 / 18446744073709551616 / 18446744073709551616 := by rw [Nat.pow_succ, ← Nat.div_div_eq_div_mul, d2]
  unfold w64 ofW
  rw [d2, d3, B_eq, Nat.pow_zero, Nat.pow_one]
  omega
theorem nl_mod (a : Nat) : nl (a % B) = nl a := by
  rw [← ofW_w64, nl_ofW _ _ _ _ (w64_lt _ _) (w64_lt _ _) (w64_lt _ _) (w64_lt _ _)]
  unfold nl
  simp only [wd_eq]
theorem num_mod (a : Nat) : num (a % B) = num a := by unfold num; rw [nl_mod]
theorem nl_inj {a b : Nat} (h : nl a = nl b) : a % B = b % B := by
  unfold nl at h
  simp only [List.cons.injEq, Value.int.injEq, true_and, and_true] at h
  obtain ⟨h0, h1, h2, h3⟩ := h
  rw [wd_eq, wd_eq] at h0 h1 h2 h3
  rw [← ofW_w64 a, ← ofW_w64 b, show w64 a 0 = w64 b 0 by omega, show w64 a 1 = w64 b 1 by omega, show w64 a 2 = w64 b 2 by omega, show w64 a 3 = w64 b 3 by omega]
noncomputable def eqN : Nat → Nat → Bool := opq fun a b => decide (a % B = b % B)
theorem eqN_def (a b : Nat) : eqN a b = decide (a % B = b % B) := by unfold eqN; rw [xCe]
theorem eqN_self (a : Nat) : eqN a a = true := by simp [eqN_def]
theorem eqN_yes {a b : Nat} (h : a = b) : eqN a b = true := by rw [h]; exact eqN_self b
theorem xDl {a b : Nat} (ha : a < B) (hb : b < B) (h : a ≠ b) : eqN a b = false := by simp [eqN_def, Nat.mod_eq_of_lt ha, Nat.mod_eq_of_lt hb, h]
instance : RowT Tryz.prog 24 4 := .mk' (by kernel_rfl) (by kernel_rfl)
instance : CellT Tryz.prog 22 := .mk' (by kernel_rfl) (by kernel_rfl)
instance : CellT Tryz.prog 3 := .mk' (by kernel_rfl) (by kernel_rfl)
instance : CellT Tryz.prog 4 := .mk' (by kernel_rfl) (by kernel_rfl)
instance : CellT Tryz.prog 33 := .mk' (by kernel_rfl) (by kernel_rfl)
instance : ZeroT Tryz.prog 24 [.int .u64 0, .int .u64 0, .int .u64 0, .int .u64 0] := ⟨.agg #[.int .u64 0, .int .u64 0, .int .u64 0, .int .u64 0], by kernel_rfl, rfl⟩
@[go_sem] theorem index_num0 (a : Nat) (w : World) : (Instr.index 24 (.agg (nl a).toArray) (.int .i64 0)).run Tryz.prog w = .ok (.int .u64 (wd a 0)) w := by unfold nl; kernel_rfl
@[go_sem] theorem index_num1 (a : Nat) (w : World) : (Instr.index 24 (.agg (nl a).toArray) (.int .i64 1)).run Tryz.prog w = .ok (.int .u64 (wd a 1)) w := by unfold nl; kernel_rfl
@[go_sem] theorem index_num2 (a : Nat) (w : World) : (Instr.index 24 (.agg (nl a).toArray) (.int .i64 2)).run Tryz.prog w = .ok (.int .u64 (wd a 2)) w := by unfold nl; kernel_rfl
@[go_sem] theorem index_num3 (a : Nat) (w : World) : (Instr.index 24 (.agg (nl a).toArray) (.int .i64 3)).run Tryz.prog w = .ok (.int .u64 (wd a 3)) w := by unfold nl; kernel_rfl
theorem xCt : Tryz.prog.follows .mixedOrders = true := by kernel_rfl
theorem nl_zero : [Value.int .u64 0, .int .u64 0, .int .u64 0, .int .u64 0] = nl 0 := by unfold nl; simp [wd_def]
theorem xCs : (Value.agg #[.int .u64 0, .int .u64 0, .int .u64 0, .int .u64 0]) = num 0 := by unfold num; rw [← nl_zero]
theorem cells_u64 : Tryz.prog.cellsOf 22 = 1 := by kernel_rfl
@[go_sem] theorem equalIn_num (a b : Nat) (w : World) : (Op.equalIn 10000 24 (.agg (nl a).toArray) (.agg (nl b).toArray)).run Tryz.prog w = .ok (eqN a b) w := by
  have hp : ∀ (x i : Nat), i < 4 → ∀ v, (nl x)[i]? = some v → (part 22 (nl x).toArray i).run Tryz.prog w = .ok v w := fun x i hi v hv => by
    have hagg : (isAgg 22).run Tryz.prog w = .ok false w := by
      unfold isAgg
      rw [Sem.run_bind, run_underlying Tryz.underlying22 w]
      rfl
    unfold part
    rw [Sem.run_bind, hagg]
    simp only [Result.andThen_ok, Bool.false_eq_true, if_false, List.getElem?_toArray, hv]
    rfl
  have ho : ∃ i, Tryz.prog.info? 22 = some i := by
    cases h : Tryz.prog.info? 22 with
    | some i => exact ⟨i, rfl⟩
    | none => exact absurd (show (Tryz.prog.info? 22).isSome = true by kernel_rfl) (by rw [h]; decide)
  obtain ⟨i, hi⟩ := ho
  have hu : Tryz.prog.underlying 24 = some (.array 4 22) := Tryz.underlying24
  rw [show (10000 : Nat) = 9999 + 1 from rfl, run_equalIn_array w 9999 (nl a).toArray (nl b).toArray hu hi, cells_u64]
  have he : ∀ x y : Int, (Op.equalIn 9999 22 (.int .u64 x) (.int .u64 y)).run Tryz.prog w = .ok (x == y) w := fun x y => run_equalIn_int w 9998 22 .u64 .u64 x y Tryz.underlying22
  simp only [List.range, List.range.loop, Op.eqItems, Nat.zero_mul, Nat.one_mul, Nat.mul_one, Sem.run_bind, hp a 0 (by omega) _ rfl, hp b 0 (by omega) _ rfl, hp a 1 (by omega) _ rfl, hp b 1 (by omega) _ rfl, hp a 2 (by omega) _ rfl, hp b 2 (by omega) _ rfl,
    hp a 3 (by omega) _ rfl, hp b 3 (by omega) _ rfl, he, Result.andThen_ok, Sem.run_ite, Sem.run_pure]
  by_cases h : a % B = b % B
  · have e : nl a = nl b := by rw [← nl_mod a, h, nl_mod]
    unfold nl at e
    simp only [List.cons.injEq, Value.int.injEq, true_and, and_true] at e
    obtain ⟨h0, h1, h2, h3⟩ := e
    simp [eqN_def, h, h0, h1, h2, h3]
  · have e : ¬ (wd a 0 = wd b 0 ∧ wd a 1 = wd b 1 ∧ wd a 2 = wd b 2 ∧ wd a 3 = wd b 3) := fun ⟨h0, h1, h2, h3⟩ => h (nl_inj (by unfold nl; rw [h0, h1, h2, h3]))
    have ee : eqN a b = false := by simp [eqN_def, h]
    rw [ee]
    by_cases h0 : wd a 0 = wd b 0 <;> by_cases h1 : wd a 1 = wd b 1 <;> by_cases h2 : wd a 2 = wd b 2 <;> by_cases h3 : wd a 3 = wd b 3 <;> simp_all
section
variable {P : Program} {ops : Array Oper} {rest : List Oper} {o : Oper} {a : Act} {w w0 : World} {Q : Exit → Act → World → Prop} {B0 : Nat} {L L' : List (Nat × Obj)}
theorem aAq {ty : TypeId} {x : Operand} {n : Nat} {b : Nat} {l : List Value} {t : TypeId} (hR : Rep B0 w0 L w) (hg : o.guard = none) (ho : o.op = .load ty x) (hx : a.eval x = .pointer (some ⟨b, 0, none⟩)) (hT : RowT P ty n) (h : wpList P ops Q rest (a.put o.dst (.agg l.toArray)) w) (hm : (b, Obj.cells l.toArray t) ∈ L := by first | ((first | with_reducible assumption | repeat (first | exact .head _ | apply List.Mem.tail)); done) | fail) (hn : l.length = n := by first | ((first | rfl | (simp; done)); done) | fail) : wpList P ops Q (o :: rest) a w :=
  wpList_loadAll hR hg ho hx hT hm hn h
theorem aBq {ty : TypeId} {x : Operand} {n : Nat} {b off : Nat} {l vs : List Value} {t : TypeId} (hR : Rep B0 w0 L w) (hg : o.guard = none) (ho : o.op = .load ty x) (hx : a.eval x = .pointer (some ⟨b, off, none⟩)) (hT : RowT P ty n) (h : wpList P ops Q rest (a.put o.dst (.agg vs.toArray)) w) (hm : (b, Obj.cells l.toArray t) ∈ L := by first | ((first | with_reducible assumption | repeat (first | exact .head _ | apply List.Mem.tail)); done) | fail) (hv : (l.drop off).take n = vs := by first | ((first | with_reducible assumption | (simp only [kC, kD, kE, kF]; first | done | rfl)); done) | fail) (hn : vs.length = n := by first | ((first | rfl | (simp; done)); done) | fail) : wpList P ops Q (o :: rest) a w :=
  wpList_loadRow hR hg ho hx hT hm hv hn h
theorem aCq {ty : TypeId} {x : Operand} {b off : Nat} {l : List Value} {v : Value} {t : TypeId} (hR : Rep B0 w0 L w) (hg : o.guard = none) (ho : o.op = .load ty x) (hx : a.eval x = .pointer (some ⟨b, off, none⟩)) (hT : CellT P ty) (h : wpList P ops Q rest (a.put o.dst v) w) (hm : (b, Obj.cells l.toArray t) ∈ L := by first | ((first | with_reducible assumption | repeat (first | exact .head _ | apply List.Mem.tail)); done) | fail) (hv : l[off]? = some v := by first | ((first | rfl | with_reducible assumption); done) | fail) : wpList P ops Q (o :: rest) a w :=
  wpList_loadCell hR hg ho hx hT hm hv h
theorem aDq {ty : TypeId} {x y : Operand} {n : Nat} {b : Nat} {l vs : List Value} {t : TypeId} (hR : Rep B0 w0 L w) (hg : o.guard = none) (ho : o.op = .store ty x y) (hx : a.eval x = .pointer (some ⟨b, 0, none⟩)) (hT : RowT P ty n) (hy : a.eval y = .agg vs.toArray) (h : ∀ w', Rep B0 w0 L' w' → wpList P ops Q rest (a.put o.dst undef) w') (hs : xAx L b (.cells l.toArray t) (.cells vs.toArray t) L' := by first | ((repeat (first | exact xAx.head | apply xAx.tail)); done) | fail) (h1 : vs.all (·.oneCell') = true := by first | ((first | rfl | with_reducible assumption); done) | fail) (hvn : vs.length = n := by first | ((first | rfl | (simp; done)); done) | fail) (hn : l.length = n := by first | ((first | rfl | (simp; done)); done) | fail) : wpList P ops Q (o :: rest) a w :=
  wpList_storeAll hR hg ho hx hT hy hs h1 hvn hn h
theorem aEq {ty : TypeId} {x y : Operand} {b off : Nat} {l l' : List Value} {v : Value} {t : TypeId} (hR : Rep B0 w0 L w) (hg : o.guard = none) (ho : o.op = .store ty x y) (hx : a.eval x = .pointer (some ⟨b, off, none⟩)) (hT : CellT P ty) (hy' : ev a y = some v) (h1 : v.oneCell' = true) (h : ∀ w', Rep B0 w0 L' w' → wpList P ops Q rest (a.put o.dst undef) w') (hs : xAx L b (.cells l.toArray t) (.cells l'.toArray t) L' := by first | ((repeat (first | exact xAx.head | apply xAx.tail)); done) | fail) (hn : off < l.length := by first | ((first | exact of_decide_eq_true rfl | (show _ < 4; with_reducible assumption) | (simp; first | done | omega)); done) | fail) (hl : l.set off v = l' := by first | ((first | with_reducible assumption | (simp only [nl, kA, kB]; first | done | rfl) | rfl); done) | fail) : wpList P ops Q (o :: rest) a w :=
  wpList_storeCell hR hg ho hx hT hy' h1 hs hn hl h
theorem aFq {ty : TypeId} {x : Operand} {n : Nat} {b : Nat} {l : List Value} {t : TypeId} (hR : Rep B0 w0 L w) (hg : o.guard = none) (ho : o.op = .load ty x) (hx : a.eval x = .pointer (some ⟨b, 0, none⟩)) (hT : RowT P ty n) (h : wpList P ops Q rest (a.put o.dst (.agg l.toArray)) w) (hm : (b, Obj.cells l.toArray t) ∈ L := by first | ((first | with_reducible assumption | repeat (first | exact .head _ | with_reducible assumption | apply List.mem_cons_of_mem)); done) | fail) (hn : l.length = n := by first | ((first | rfl | (simp; done)); done) | fail) : wpList P ops Q (o :: rest) a w :=
  wpList_loadAll hR hg ho hx hT hm hn h
theorem aGq {ty : TypeId} {x : Operand} {n : Nat} {b off : Nat} {l vs : List Value} {t : TypeId} (hR : Rep B0 w0 L w) (hg : o.guard = none) (ho : o.op = .load ty x) (hx : a.eval x = .pointer (some ⟨b, off, none⟩)) (hT : RowT P ty n) (h : wpList P ops Q rest (a.put o.dst (.agg vs.toArray)) w) (hm : (b, Obj.cells l.toArray t) ∈ L := by first | ((first | with_reducible assumption | repeat (first | exact .head _ | with_reducible assumption | apply List.mem_cons_of_mem)); done) | fail) (hv : (l.drop off).take n = vs := by first | ((first | with_reducible assumption | (simp only [kC, kD, kE, kF]; first | done | rfl)); done) | fail) (hn : vs.length = n := by first | ((first | rfl | (simp; done)); done) | fail) : wpList P ops Q (o :: rest) a w :=
  wpList_loadRow hR hg ho hx hT hm hv hn h
theorem aHq {ty : TypeId} {x : Operand} {b off : Nat} {l : List Value} {v : Value} {t : TypeId} (hR : Rep B0 w0 L w) (hg : o.guard = none) (ho : o.op = .load ty x) (hx : a.eval x = .pointer (some ⟨b, off, none⟩)) (hT : CellT P ty) (h : wpList P ops Q rest (a.put o.dst v) w) (hm : (b, Obj.cells l.toArray t) ∈ L := by first | ((first | with_reducible assumption | repeat (first | exact .head _ | with_reducible assumption | apply List.mem_cons_of_mem)); done) | fail) (hv : l[off]? = some v := by first | ((first | rfl | with_reducible assumption); done) | fail) : wpList P ops Q (o :: rest) a w :=
  wpList_loadCell hR hg ho hx hT hm hv h
theorem aIq {ty : TypeId} {x : Operand} {n : Nat} {b : Nat} {l : List Value} {t : TypeId} (hR : Rep B0 w0 L w) (hg : o.guard = none) (ho : o.op = .load ty x) (hx : a.eval x = .pointer (some ⟨b, 0, none⟩)) (h : wpList P ops Q rest (a.put o.dst (.agg l.toArray)) w) (hT : RowT P ty n := by first | ((exact inferInstance); done) | fail) (hm : (b, Obj.cells l.toArray t) ∈ L := by first | ((first | with_reducible assumption | repeat (first | exact List.Mem.head _ | apply List.Mem.tail)); done) | fail) (hn : l.length = n := by first | ((rfl); done) | fail) : wpList P ops Q (o :: rest) a w :=
  wpList_loadAll hR hg ho hx hT hm hn h
theorem aJq {ty : TypeId} {x y : Operand} {n : Nat} {b : Nat} {l vs : List Value} {t : TypeId} (hR : Rep B0 w0 L w) (hg : o.guard = none) (ho : o.op = .store ty x y) (hx : a.eval x = .pointer (some ⟨b, 0, none⟩)) (hy : a.eval y = .agg vs.toArray) (h1 : vs.all (·.oneCell') = true) (hvn : vs.length = n) (h : ∀ w', Rep B0 w0 L' w' → wpList P ops Q rest (a.put o.dst undef) w') (hT : RowT P ty n := by first | ((exact inferInstance); done) | fail) (hs : xAx L b (.cells l.toArray t) (.cells vs.toArray t) L' := by first | ((repeat (first | exact xAx.head | apply xAx.tail)); done) | fail) (hn : l.length = n := by first | ((rfl); done) | fail) : wpList P ops Q (o :: rest) a w :=
  wpList_storeAll hR hg ho hx hT hy hs h1 hvn hn h
end
end Go.Proofs.YtgfoeongjhkdmaaGreat
namespace Go.Proofs.YtgfoeongjhkdmaaGreat
open Go.RowKit
theorem xCz (a b : Nat) (ha : a < 4294967296) (hb : b < 4294967296) : bits .xor .u32 (a : Int) (b : Int) = ((a ^^^ b : Nat) : Int) := by
  have h := Nat.xor_lt_two_pow (n := 32) ha hb
  have hb32 : IntKind.u32.bits = 32 := rfl
  have ha' : a % 2 ^ IntKind.u32.bits = a := Nat.mod_eq_of_lt ha
  have hb' : b % 2 ^ IntKind.u32.bits = b := Nat.mod_eq_of_lt hb
  simp only [bits, BitVec.ofInt_natCast, BitVec.toNat_xor, BitVec.toNat_ofNat, ha', hb']
  rw [IntKind.wrap_u32]
  omega
theorem u32_and (a b : Nat) (ha : a < 4294967296) (hb : b < 4294967296) : bits .and .u32 (a : Int) (b : Int) = ((a &&& b : Nat) : Int) :=
  (bits_nat .u32 32 (by decide) (fun n h0 h1 => by rw [IntKind.wrap_u32]; omega) a b ha hb).1
theorem u32_or (a b : Nat) (ha : a < 4294967296) (hb : b < 4294967296) : bits .or .u32 (a : Int) (b : Int) = ((a ||| b : Nat) : Int) :=
  (bits_nat .u32 32 (by decide) (fun n h0 h1 => by rw [IntKind.wrap_u32]; omega) a b ha hb).2
theorem xor_lt {a b : Nat} (ha : a < 4294967296) (hb : b < 4294967296) : a ^^^ b < 4294967296 := Nat.xor_lt_two_pow (n := 32) ha hb
theorem and_lt {a b : Nat} (hb : b < 4294967296) : a &&& b < 4294967296 := Nat.and_lt_two_pow (n := 32) a hb
theorem or_lt {a b : Nat} (ha : a < 4294967296) (hb : b < 4294967296) : a ||| b < 4294967296 := Nat.or_lt_two_pow (n := 32) ha hb
def rotr (x k : Nat) : Nat := x / 2 ^ k ||| x * 2 ^ (32 - k) % 4294967296
def rot2 (x a b : Nat) : Nat := rotr x a ^^^ rotr x b
def rot3 (x a b c : Nat) : Nat := rotr x a ^^^ rotr x b ^^^ rotr x c
theorem xCn {x : Nat} (k : Nat) (hx : x < 4294967296) : rotr x k < 4294967296 := or_lt (Nat.lt_of_le_of_lt (Nat.div_le_self _ _) hx) (Nat.mod_lt _ (by decide))
theorem rot2_lt {x : Nat} (a b : Nat) (hx : x < 4294967296) : rot2 x a b < 4294967296 := xor_lt (xCn a hx) (xCn b hx)
def chN (e f g : Nat) : Nat := g ^^^ (e &&& (f ^^^ g))
def majN (a b c : Nat) : Nat := (a &&& b) ^^^ (a &&& c) ^^^ (b &&& c)
theorem ch_ref {e f g : Nat} (he : e < 4294967296) (hg : g < 4294967296) : (e &&& f) ^^^ ((4294967295 - e) &&& g) = chN e f g := by
  refine Nat.eq_of_testBit_eq fun i => ?_
  have h1 : (4294967295 - e).testBit i = (decide (i < 32) && !e.testBit i) := by
    have := Nat.testBit_two_pow_sub_succ (n := 32) he i
    rw [show 2 ^ 32 - (e + 1) = 4294967295 - e by omega] at this
    exact this
  have h2 : ¬ i < 32 → g.testBit i = false := fun h => Nat.testBit_lt_two_pow (Nat.lt_of_lt_of_le hg (show 2 ^ 32 ≤ 2 ^ i from Nat.pow_le_pow_right (by decide) (by omega)))
  simp only [chN, Nat.testBit_xor, Nat.testBit_and, h1]
  by_cases h : i < 32
  · cases e.testBit i <;> cases f.testBit i <;> cases g.testBit i <;> simp [h]
  · rw [h2 h]
    cases e.testBit i <;> cases f.testBit i <;> simp [h]
theorem maj_ref (a b c : Nat) : (a &&& b) ||| (a &&& c) ||| (b &&& c) = majN a b c := by
  refine Nat.eq_of_testBit_eq fun i => ?_
  simp only [majN, Nat.testBit_xor, Nat.testBit_and, Nat.testBit_or]
  cases a.testBit i <;> cases b.testBit i <;> cases c.testBit i <;> rfl
def be4 (a b c d : Nat) : Nat := ((a * 256 + b) * 256 + c) * 256 + d
def wordN (b : Nat → Nat) (i : Nat) : Nat := be4 (b (4 * i)) (b (4 * i + 1)) (b (4 * i + 2)) (b (4 * i + 3))
def moreN (w16 w7 w15 w2 : Nat) : Nat := (w16 + w7 + (rot2 w15 7 18 ^^^ w15 / 8) + (rot2 w2 17 19 ^^^ w2 / 1024)) % 4294967296
def sched (b : Nat → Nat) : Nat → List Nat
  | 0 => []
  | n + 1 => let l := sched b n
    l ++ [if n < 16 then wordN b n else moreN (l.getD (n - 16) 0) (l.getD (n - 7) 0) (l.getD (n - 15) 0) (l.getD (n - 2) 0)]
theorem xDe (b : Nat → Nat) : ∀ n, (sched b n).length = n
  | 0 => rfl
  | n + 1 => by simp [sched, xDe b n]
theorem moreN_lt (a b c d : Nat) : moreN a b c d < 4294967296 := Nat.mod_lt _ (by decide)
theorem wordN_lt {b : Nat → Nat} (hb : ∀ j, b j < 256) (i : Nat) : wordN b i < 4294967296 := by
  have h0 := hb (4 * i); have h1 := hb (4 * i + 1); have h2 := hb (4 * i + 2); have h3 := hb (4 * i + 3)
  unfold wordN be4
  omega
theorem sched_lt {b : Nat → Nat} (hb : ∀ j, b j < 256) : ∀ n, ∀ x ∈ sched b n, x < 4294967296
  | 0, x, h => nomatch h
  | n + 1, x, h => by
    simp only [sched, List.mem_append, List.mem_singleton] at h
    rcases h with h | rfl
    · exact sched_lt hb n x h
    · split
      · exact wordN_lt hb n
      · exact moreN_lt _ _ _ _
theorem sched_getD_lt {b : Nat → Nat} (hb : ∀ j, b j < 256) (n i : Nat) : (sched b n).getD i 0 < 4294967296 := by
  rw [List.getD_eq_getElem?_getD]
  cases h : (sched b n)[i]? with
  | none => decide
  | some x => exact sched_lt hb n x (List.mem_of_getElem? h)
theorem sched_grow (b : Nat → Nat) (i : Nat) : ∀ n m, i < n → n ≤ m → (sched b m).getD i 0 = (sched b n).getD i 0 := by
  intro n m h hm
  induction m with
  | zero => omega
  | succ m ih =>
    by_cases e : n = m + 1
    · rw [e]
    · rw [← ih (by omega)]
      simp only [sched]
      rw [List.getD_eq_getElem?_getD, List.getElem?_append_left (by rw [xDe]; omega), ← List.getD_eq_getElem?_getD]
structure S8 where
  a : Nat
  b : Nat
  c : Nat
  d : Nat
  e : Nat
  f : Nat
  g : Nat
  h : Nat
structure S8.ok (s : S8) : Prop where
  a : s.a < 4294967296
  b : s.b < 4294967296
  c : s.c < 4294967296
  d : s.d < 4294967296
  e : s.e < 4294967296
  f : s.f < 4294967296
  g : s.g < 4294967296
  h : s.h < 4294967296
def tN (s : S8) (k w : Nat) : Nat := (s.h + rot3 s.e 6 11 25 + chN s.e s.f s.g + k + w) % 4294967296
def uN (s : S8) (t : Nat) : Nat := (t + (rot3 s.a 2 13 22 + majN s.a s.b s.c)) % 4294967296
def roundN (s : S8) (k w : Nat) : S8 := let t := tN s k w
  ⟨uN s t, s.a, s.b, s.c, (s.d + t) % 4294967296, s.e, s.f, s.g⟩
theorem roundN_ok {s : S8} (h : s.ok) (k w : Nat) : (roundN s k w).ok := ⟨Nat.mod_lt _ (by decide), h.a, h.b, h.c, Nat.mod_lt _ (by decide), h.e, h.f, h.g⟩
def steps : List Nat := [
  0x428a2f98, 0x71374491, 0xb5c0fbcf, 0xe9b5dba5, 0x3956c25b, 0x59f111f1, 0x923f82a4, 0xab1c5ed5,
  0xd807aa98, 0x12835b01, 0x243185be, 0x550c7dc3, 0x72be5d74, 0x80deb1fe, 0x9bdc06a7, 0xc19bf174,
  0xe49b69c1, 0xefbe4786, 0x0fc19dc6, 0x240ca1cc, 0x2de92c6f, 0x4a7484aa, 0x5cb0a9dc, 0x76f988da,
  0x983e5152, 0xa831c66d, 0xb00327c8, 0xbf597fc7, 0xc6e00bf3, 0xd5a79147, 0x06ca6351, 0x14292967,
  0x27b70a85, 0x2e1b2138, 0x4d2c6dfc, 0x53380d13, 0x650a7354, 0x766a0abb, 0x81c2c92e, 0x92722c85,
  0xa2bfe8a1, 0xa81a664b, 0xc24b8b70, 0xc76c51a3, 0xd192e819, 0xd6990624, 0xf40e3585, 0x106aa070,
  0x19a4c116, 0x1e376c08, 0x2748774c, 0x34b0bcb5, 0x391c0cb3, 0x4ed8aa4a, 0x5b9cca4f, 0x682e6ff3,
  0x748f82ee, 0x78a5636f, 0x84c87814, 0x8cc70208, 0x90befffa, 0xa4506ceb, 0xbef9a3f7, 0xc67178f2]
theorem steps_lt : ∀ i, steps.getD i 0 < 4294967296 := fun i => by
  by_cases h : i < 64
  · have : ∀ j : Fin 64, steps.getD j.1 0 < 4294967296 := by decide
    exact this ⟨i, h⟩
  · rw [List.getD_eq_getElem?_getD, List.getElem?_eq_none (by show 64 ≤ i; omega)]; decide
def runN (s : S8) (l : List Nat) : Nat → S8
  | 0 => s
  | n + 1 => roundN (runN s l n) (steps.getD n 0) (l.getD n 0)
theorem runN_ok {s : S8} (h : s.ok) (l : List Nat) : ∀ n, (runN s l n).ok
  | 0 => h
  | n + 1 => roundN_ok (runN_ok h l n) _ _
def addS (s t : S8) : S8 := ⟨(s.a + t.a) % 4294967296, (s.b + t.b) % 4294967296, (s.c + t.c) % 4294967296, (s.d + t.d) % 4294967296, (s.e + t.e) % 4294967296, (s.f + t.f) % 4294967296, (s.g + t.g) % 4294967296, (s.h + t.h) % 4294967296⟩
theorem addS_ok (s t : S8) : (addS s t).ok := ⟨Nat.mod_lt _ (by decide), Nat.mod_lt _ (by decide), Nat.mod_lt _ (by decide), Nat.mod_lt _ (by decide), Nat.mod_lt _ (by decide), Nat.mod_lt _ (by decide), Nat.mod_lt _ (by decide), Nat.mod_lt _ (by decide)⟩
def takeN (s : S8) (b : Nat → Nat) : S8 := addS (runN s (sched b 64) 64) s
def beginN : S8 := ⟨0x6a09e667, 0xbb67ae85, 0x3c6ef372, 0xa54ff53a, 0x510e527f, 0x9b05688c, 0x1f83d9ab, 0x5be0cd19⟩
theorem beginN_ok : beginN.ok := ⟨by decide, by decide, by decide, by decide, by decide, by decide, by decide, by decide⟩
theorem wordN_congr {b c : Nat → Nat} {n : Nat} (hn : n < 16) (h : ∀ j, j < 64 → b j = c j) : wordN b n = wordN c n := by
  unfold wordN
  rw [h _ (by omega), h _ (by omega), h _ (by omega), h _ (by omega)]
theorem sched_congr {b c : Nat → Nat} (h : ∀ j, j < 64 → b j = c j) : ∀ n, sched b n = sched c n
  | 0 => rfl
  | n + 1 => by
    simp only [sched, sched_congr h n]
    by_cases hn : n < 16
    · rw [if_pos hn, if_pos hn, wordN_congr hn h]
    · rw [if_neg hn, if_neg hn]
theorem takeN_congr {b c : Nat → Nat} (s : S8) (h : ∀ j, j < 64 → b j = c j) : takeN s b = takeN s c := by
  unfold takeN
  rw [sched_congr h]
def xBv (m : List Nat) : Nat → S8
  | 0 => beginN
  | k + 1 => takeN (xBv m k) (fun j => m.getD (64 * k + j) 0)
theorem blocksN_ok (m : List Nat) : ∀ k, (xBv m k).ok
  | 0 => beginN_ok
  | k + 1 => addS_ok _ _
theorem blocksN_congr {m l : List Nat} : ∀ k, (∀ j, j < 64 * k → m.getD j 0 = l.getD j 0) → xBv m k = xBv l k
  | 0, _ => rfl
  | k + 1, h => by
    simp only [xBv]
    rw [blocksN_congr k (fun j hj => h j (by omega))]
    exact takeN_congr _ fun j hj => h _ (by omega)
theorem blocksN_append (m l : List Nat) (k : Nat) (h : 64 * k ≤ m.length) : xBv (m ++ l) k = xBv m k :=
  blocksN_congr k fun j hj => by rw [List.getD_eq_getElem?_getD, List.getD_eq_getElem?_getD, List.getElem?_append_left (by omega)]
def gapN (n : Nat) : Nat := (119 - n % 64) % 64
def be8 (n : Nat) : List Nat := [n / 2 ^ 56 % 256, n / 2 ^ 48 % 256, n / 2 ^ 40 % 256, n / 2 ^ 32 % 256, n / 2 ^ 24 % 256, n / 2 ^ 16 % 256, n / 2 ^ 8 % 256, n % 256]
def tailN (n : Nat) : List Nat := 128 :: (List.replicate (gapN n) 0 ++ be8 (8 * n % 18446744073709551616))
def padN (m : List Nat) : List Nat := m ++ tailN m.length
theorem gap_fits (n : Nat) : (n + 1 + gapN n) % 64 = 56 := by unfold gapN; omega
theorem tailN_length (n : Nat) : (tailN n).length = 9 + gapN n := by simp [tailN, be8]; omega
def byteN (s : S8) (i : Nat) : Nat := ([s.a, s.b, s.c, s.d, s.e, s.f, s.g, s.h].getD (i / 4) 0) / 2 ^ (24 - i % 4 * 8) % 256
def bytesN (s : S8) : List Nat := (List.range 32).map (byteN s)
def hashN (m : List Nat) : List Nat := bytesN (xBv (padN m) ((padN m).length / 64))
end Go.Proofs.YtgfoeongjhkdmaaGreat
namespace Go.Proofs.YtgfoeongjhkdmaaGreat
open Go.RowKit
theorem rot_int (x k : Nat) (hx : x < 4294967296) (hk : k ≤ 32) : bits BinOp.or IntKind.u32 ((x : Int) * 2 ^ (32 - k) % 4294967296) ((x : Int) / 2 ^ k) = ((rotr x k : Nat) : Int) := by
  have e1 : (x : Int) * 2 ^ (32 - k) % 4294967296 = ((x * 2 ^ (32 - k) % 4294967296 : Nat) : Int) := by simp
  have e2 : (x : Int) / 2 ^ k = ((x / 2 ^ k : Nat) : Int) := by simp
  rw [e1, e2, u32_or _ _ (Nat.mod_lt _ (by decide)) (Nat.lt_of_le_of_lt (Nat.div_le_self _ _) hx)]
  unfold rotr
  rw [Nat.or_comm]
theorem rot_any (x k : Nat) (hx : x < 4294967296) (hk : k ∈ [2, 6, 7, 11, 13, 17, 18, 19, 22, 25]) (w : World) : Calls Tryz.prog 117 #[.int .u32 (x : Int), .int .i64 (-(k : Int))] w fun e w' => e = .returned (.int .u32 ((rotr x k : Nat) : Int)) ∧ w' = w := by
  have hr := rot_int x k hx (by simp only [List.mem_cons, List.not_mem_nil, or_false] at hk; omega)
  generalize rotr x k = r at *
  simp only [List.mem_cons, List.not_mem_nil, or_false] at hk
  replace hr := Held.mk hr
  have hs : bits BinOp.and IntKind.u64 (IntKind.u64.wrap (-(k : Int))) 31 = 32 - (k : Int) := by
    rcases hk with rfl | rfl | rfl | rfl | rfl | rfl | rfl | rfl | rfl | rfl <;> decide
  rcases hk with rfl | rfl | rfl | rfl | rfl | rfl | rfl | rfl | rfl | rfl
  all_goals
    simp only [Int.cast_ofNat_Int, Int.reduceSub] at hs
    go_enter Tryz.func117, Tryz.ntmps117
    go_wp2
    go_ret
    have h := hr.out
    simp only [Nat.reduceSub, Int.reducePow] at h
    exact ⟨by rw [← h]; rfl, rfl⟩
attribute [local irreducible] Calls
instance inShaMix1 : CellT Tryz.prog 3 := .mk' (by kernel_rfl) (by kernel_rfl)
theorem neg_small (k : Nat) (h : k ∈ [2, 6, 7, 11, 13, 17, 18, 19, 22, 25]) : wrap64 (-(k : Int)) = -(k : Int) := by
  simp only [List.mem_cons, List.not_mem_nil, or_false] at h
  unfold wrap64
  omega
theorem rot_lit (x k : Nat) (hx : x < 4294967296) (hk : k ∈ [2, 6, 7, 11, 13, 17, 18, 19, 22, 25]) : ∃ n : Int, wrap64 (-(k : Int)) = n ∧ ∀ w, Calls Tryz.prog 117 #[.int .u32 (x : Int), .int .i64 n] w fun e w' => e = .returned (.int .u32 ((rotr x k : Nat) : Int)) ∧ w' = w :=
  ⟨_, neg_small k hk, fun w => rot_any x k hx hk w⟩
theorem mix2_any (x k1 k2 b : Nat) (hx : x < 4294967296) (h1 : k1 ∈ [2, 6, 7, 11, 13, 17, 18, 19, 22, 25]) (h2 : k2 ∈ [2, 6, 7, 11, 13, 17, 18, 19, 22, 25]) (w : World)
    (c1 : w.cell? ⟨b, 0, none⟩ = some (.int .i64 (k1 : Int))) (c2 : w.cell? ⟨b, 1, none⟩ = some (.int .i64 (k2 : Int))) :
    Calls Tryz.prog 115 #[.int .u32 (x : Int), .slice (some ⟨b, 0, none⟩) 2 2] w fun e w' => e = .returned (.int .u32 ((rot2 x k1 k2 : Nat) : Int)) ∧ w' = w := by
  obtain ⟨n1, q1, r1⟩ := rot_lit x k1 hx h1
  obtain ⟨n2, q2, r2⟩ := rot_lit x k2 hx h2
  have x0 := xCz 0 (rotr x k1) (by decide) (xCn _ hx)
  have x1 := xCz (rotr x k1) (rotr x k2) (xCn _ hx) (xCn _ hx)
  rw [Nat.zero_xor, Int.natCast_zero] at x0
  unfold rot2
  generalize rotr x k1 = a1 at *
  generalize rotr x k2 = a2 at *
  generalize a1 ^^^ a2 = a3 at *
  generalize (k1 : Int) = i1 at *
  generalize (k2 : Int) = i2 at *
  clear h1 h2
  go_enter Tryz.func115, Tryz.ntmps115
  go_wp2
  refine wp_loop_rounds 3 ?_
  rw [rounds_succ]
  go_wp2_with (go_at_call 117; refine (r1 _).mono ?_; rintro e w' ⟨rfl, rfl⟩)
  rw [rounds_succ]
  go_wp2_with (go_at_call 117; refine (r2 _).mono ?_; rintro e w' ⟨rfl, rfl⟩)
  rw [rounds_succ]
  go_wp2
  go_ret
  exact ⟨rfl, rfl⟩
theorem mix3_any (x k1 k2 k3 b : Nat) (hx : x < 4294967296) (h1 : k1 ∈ [2, 6, 7, 11, 13, 17, 18, 19, 22, 25]) (h2 : k2 ∈ [2, 6, 7, 11, 13, 17, 18, 19, 22, 25]) (h3 : k3 ∈ [2, 6, 7, 11, 13, 17, 18, 19, 22, 25]) (w : World)
    (c1 : w.cell? ⟨b, 0, none⟩ = some (.int .i64 (k1 : Int))) (c2 : w.cell? ⟨b, 1, none⟩ = some (.int .i64 (k2 : Int))) (c3 : w.cell? ⟨b, 2, none⟩ = some (.int .i64 (k3 : Int))) :
    Calls Tryz.prog 115 #[.int .u32 (x : Int), .slice (some ⟨b, 0, none⟩) 3 3] w fun e w' => e = .returned (.int .u32 ((rot3 x k1 k2 k3 : Nat) : Int)) ∧ w' = w := by
  obtain ⟨n1, q1, r1⟩ := rot_lit x k1 hx h1
  obtain ⟨n2, q2, r2⟩ := rot_lit x k2 hx h2
  obtain ⟨n3, q3, r3⟩ := rot_lit x k3 hx h3
  have x0 := xCz 0 (rotr x k1) (by decide) (xCn _ hx)
  have x1 := xCz (rotr x k1) (rotr x k2) (xCn _ hx) (xCn _ hx)
  have x2 := xCz (rotr x k1 ^^^ rotr x k2) (rotr x k3) (xor_lt (xCn _ hx) (xCn _ hx)) (xCn _ hx)
  rw [Nat.zero_xor, Int.natCast_zero] at x0
  unfold rot3
  generalize rotr x k1 = a1 at *
  generalize rotr x k2 = a2 at *
  generalize rotr x k3 = a3 at *
  generalize a1 ^^^ a2 ^^^ a3 = a5 at *
  generalize a1 ^^^ a2 = a4 at *
  generalize (k1 : Int) = i1 at *
  generalize (k2 : Int) = i2 at *
  generalize (k3 : Int) = i3 at *
  clear h1 h2 h3
  go_enter Tryz.func115, Tryz.ntmps115
  go_wp2
  refine wp_loop_rounds 4 ?_
  rw [rounds_succ]
  go_wp2_with (go_at_call 117; refine (r1 _).mono ?_; rintro e w' ⟨rfl, rfl⟩)
  rw [rounds_succ]
  go_wp2_with (go_at_call 117; refine (r2 _).mono ?_; rintro e w' ⟨rfl, rfl⟩)
  rw [rounds_succ]
  go_wp2_with (go_at_call 117; refine (r3 _).mono ?_; rintro e w' ⟨rfl, rfl⟩)
  rw [rounds_succ]
  go_wp2
  go_ret
  exact ⟨rfl, rfl⟩
end Go.Proofs.YtgfoeongjhkdmaaGreat
namespace Go.Proofs.YtgfoeongjhkdmaaGreat
open Go.RowKit
instance inShaRows1 : CellT Tryz.prog 110 := .mk' (by kernel_rfl) (by kernel_rfl)
instance inShaRows2 : CellT Tryz.prog 5 := .mk' (by kernel_rfl) (by kernel_rfl)
instance inShaRows3 : CellT Tryz.prog 22 := .mk' (by kernel_rfl) (by kernel_rfl)
instance inShaRows4 : RowT Tryz.prog 112 8 := .mk' (by kernel_rfl) (by kernel_rfl)
instance inShaRows5 : RowT Tryz.prog 114 64 := .mk' (by kernel_rfl) (by kernel_rfl)
instance inShaRows6 : RowT Tryz.prog 128 64 := .mk' (by kernel_rfl) (by kernel_rfl)
noncomputable def u32s (n : Nat) (w : Nat → Nat) : List Value := opq ((List.range n).map fun j => Value.int .u32 (w j : Int))
noncomputable def u8s (n : Nat) (w : Nat → Nat) : List Value := opq ((List.range n).map fun j => Value.int .u8 (w j : Int))
theorem u32s_def (n : Nat) (w : Nat → Nat) : u32s n w = (List.range n).map fun j => Value.int .u32 (w j : Int) := by unfold u32s; rw [xCe]
theorem xCu (n : Nat) (w : Nat → Nat) : u8s n w = (List.range n).map fun j => Value.int .u8 (w j : Int) := by unfold u8s; rw [xCe]
@[simp] theorem u32s_length (n : Nat) (w : Nat → Nat) : (u32s n w).length = n := by rw [u32s_def]; simp
@[simp] theorem xCr (n : Nat) (w : Nat → Nat) : (u8s n w).length = n := by rw [xCu]; simp
theorem u32s_at {n : Nat} {w : Nat → Nat} {i : Nat} (h : i < n) : (u32s n w)[i]? = some (.int .u32 (w i : Int)) := by rw [u32s_def]; simp [h]
theorem u8s_at {n : Nat} {w : Nat → Nat} {i : Nat} (h : i < n) : (u8s n w)[i]? = some (.int .u8 (w i : Int)) := by rw [xCu]; simp [h]
theorem u32s_set {n : Nat} {w v : Nat → Nat} {i x : Nat} (hx : v i = x) (h : ∀ j, j < n → j ≠ i → v j = w j) : (u32s n w).set i (.int .u32 (x : Int)) = u32s n v := by
  rw [u32s_def, u32s_def]
  refine List.ext_getElem? fun k => ?_
  rw [List.getElem?_set]
  simp only [List.length_map, List.length_range, List.getElem?_map]
  by_cases hk : k < n
  · by_cases e : i = k
    · subst e; simp [hk, hx]
    · rw [if_neg e]; simp [List.getElem?_range hk, h k hk (Ne.symm e)]
  · have : (List.range n)[k]? = none := by simp; omega
    by_cases e : i = k
    · subst e; simp [hk]
    · rw [if_neg e, this]; rfl
theorem u8s_set {n : Nat} {w v : Nat → Nat} {i x : Nat} (hx : v i = x) (h : ∀ j, j < n → j ≠ i → v j = w j) : (u8s n w).set i (.int .u8 (x : Int)) = u8s n v := by
  rw [xCu, xCu]
  refine List.ext_getElem? fun k => ?_
  rw [List.getElem?_set]
  simp only [List.length_map, List.length_range, List.getElem?_map]
  by_cases hk : k < n
  · by_cases e : i = k
    · subst e; simp [hk, hx]
    · rw [if_neg e]; simp [List.getElem?_range hk, h k hk (Ne.symm e)]
  · have : (List.range n)[k]? = none := by simp; omega
    by_cases e : i = k
    · subst e; simp [hk]
    · rw [if_neg e, this]; rfl
theorem u32s_congr {n : Nat} {w v : Nat → Nat} (h : ∀ j, j < n → w j = v j) : u32s n w = u32s n v := by
  rw [u32s_def, u32s_def]
  refine List.map_congr_left fun j hj => ?_
  rw [h j (List.mem_range.1 hj)]
theorem u8s_congr {n : Nat} {w v : Nat → Nat} (h : ∀ j, j < n → w j = v j) : u8s n w = u8s n v := by
  rw [xCu, xCu]
  refine List.map_congr_left fun j hj => ?_
  rw [h j (List.mem_range.1 hj)]
theorem u8s_one (n : Nat) (w : Nat → Nat) : (u8s n w).all (·.oneCell') = true := by
  rw [xCu]; simp [Value.oneCell']
instance inShaRows7 : ZeroT Tryz.prog 128 (u32s 64 fun _ => 0) := ⟨.agg (u32s 64 fun _ => 0).toArray, by rw [u32s_def]; kernel_rfl, rfl⟩
noncomputable def s8V (a b c d e f g h : Nat) : List Value := [.int .u32 a, .int .u32 b, .int .u32 c, .int .u32 d, .int .u32 e, .int .u32 f, .int .u32 g, .int .u32 h]
noncomputable def s8L (s : S8) : List Value := s8V s.a s.b s.c s.d s.e s.f s.g s.h
def S8.get (s : S8) (i : Nat) : Nat := [s.a, s.b, s.c, s.d, s.e, s.f, s.g, s.h].getD i 0
noncomputable def getF (s : S8) : Nat → Nat := opq s.get
theorem getF_def (s : S8) (i : Nat) : getF s i = s.get i := by unfold getF; rw [xCe]
theorem s8L_row (s : S8) : s8L s = u32s 8 (getF s) := by
  rw [u32s_def]
  simp only [getF_def]
  rfl
theorem S8.get_lt {s : S8} (h : s.ok) (i : Nat) : s.get i < 4294967296 := by
  obtain ⟨h1, h2, h3, h4, h5, h6, h7, h8⟩ := h
  match i with
  | 0 => exact h1
  | 1 => exact h2
  | 2 => exact h3
  | 3 => exact h4
  | 4 => exact h5
  | 5 => exact h6
  | 6 => exact h7
  | 7 => exact h8
  | n + 8 => exact (by decide : 0 < 4294967296)
theorem getF_lt {s : S8} (h : s.ok) (i : Nat) : getF s i < 4294967296 := by rw [getF_def]; exact s.get_lt h i
noncomputable def sumRow (t s : S8) (i : Nat) : List Value := u32s 8 fun j => if j < i then (getF t j + getF s j) % 4294967296 else getF t j
@[simp] theorem sumRow_length (t s : S8) (i : Nat) : (sumRow t s i).length = 8 := u32s_length _ _
theorem sumRow_zero (t s : S8) : sumRow t s 0 = s8L t := by rw [s8L_row]; rfl
theorem sumRow_all (t s : S8) : sumRow t s 8 = s8L (addS t s) := by
  rw [s8L_row]
  refine u32s_congr fun j hj => ?_
  rw [if_pos hj, getF_def, getF_def, getF_def]
  have : j = 0 ∨ j = 1 ∨ j = 2 ∨ j = 3 ∨ j = 4 ∨ j = 5 ∨ j = 6 ∨ j = 7 := by omega
  rcases this with rfl | rfl | rfl | rfl | rfl | rfl | rfl | rfl <;> rfl
theorem sumRow_at (t s : S8) {i : Nat} (h : i < 8) : (sumRow t s i)[i]? = some (.int .u32 (getF t i : Int)) := by
  unfold sumRow
  rw [u32s_at h, if_neg (by omega)]
theorem sumRow_set (t s : S8) {i x : Nat} (hx : (getF t i + getF s i) % 4294967296 = x) : (sumRow t s i).set i (.int .u32 (x : Int)) = sumRow t s (i + 1) := by
  unfold sumRow
  refine u32s_set (by rw [if_pos (by omega), hx]) fun j _ hj => ?_
  by_cases h : j < i
  · rw [if_pos h, if_pos (by omega)]
  · rw [if_neg h, if_neg (by omega)]
theorem xCb (s : S8) : (s8L s).length = 8 := rfl
theorem s8L_one (s : S8) : (s8L s).all (·.oneCell') = true := rfl
def zeroS : S8 := ⟨0, 0, 0, 0, 0, 0, 0, 0⟩
instance inShaRows8 : ZeroT Tryz.prog 112 (s8L zeroS) := ⟨.agg (s8L zeroS).toArray, by kernel_rfl, rfl⟩
theorem index_row {P : Program} {ty el : TypeId} {n : Nat} (hu : P.underlying ty = some (.array n el)) (hT : CellT P el) {cs : Array Value} {k : Nat} {v : Value} (hk : k < n) (hv : cs[k]? = some v) (w : World) : (Instr.index ty (.agg cs) (.int .i64 (k : Int))).run P w = .ok v w := by
  obtain ⟨d, hd, hr, hi⟩ := hT.is
  have hagg : (isAgg el).run P w = .ok false w := by
    unfold isAgg
    rw [Sem.run_bind, run_underlying hd w]
    cases d <;> simp_all
  have hsz : (sizeOf el).run P w = .ok 1 w := by
    cases hq : P.info? el with
    | none => simp [hq] at hi
    | some i =>
      have hs1 : i.size = 1 := by simpa [hq] using hi
      simp [sizeOf, typeInfo, hq, hs1]
  simp [Instr.index, asIntOf, run_underlying hu, hk, Sem.run_bind, hsz, part, hagg, hv]
theorem be4_int (a b c d : Nat) (ha : a < 256) (hb : b < 256) (hc : c < 256) (hd : d < 256) :
    bits BinOp.or IntKind.u32 (bits BinOp.or IntKind.u32 (bits BinOp.or IntKind.u32 (IntKind.u32.wrap (IntKind.u32.wrap (a : Int) * 16777216)) (IntKind.u32.wrap (IntKind.u32.wrap (b : Int) * 65536))) (IntKind.u32.wrap (IntKind.u32.wrap (c : Int) * 256))) (IntKind.u32.wrap (d : Int)) = ((be4 a b c d : Nat) : Int) := by
  have e : ∀ x : Nat, x < 256 → IntKind.u32.wrap (x : Int) = (x : Int) := fun x hx => by rw [IntKind.wrap_u32]; omega
  have e1 : IntKind.u32.wrap ((a : Int) * 16777216) = ((2 ^ 24 * a : Nat) : Int) := by rw [IntKind.wrap_u32]; omega
  have e2 : IntKind.u32.wrap ((b : Int) * 65536) = ((b * 65536 : Nat) : Int) := by rw [IntKind.wrap_u32]; omega
  have e3 : IntKind.u32.wrap ((c : Int) * 256) = ((c * 256 : Nat) : Int) := by rw [IntKind.wrap_u32]; omega
  rw [e a ha, e b hb, e c hc, e d hd, e1, e2, e3, u32_or _ _ (by omega) (by omega), ← Nat.two_pow_add_eq_or_of_lt (i := 24) (by omega) a]
  rw [show 2 ^ 24 * a + b * 65536 = 2 ^ 16 * (256 * a + b) by omega, u32_or _ _ (by omega) (by omega), ← Nat.two_pow_add_eq_or_of_lt (i := 16) (by omega) (256 * a + b)]
  rw [show 2 ^ 16 * (256 * a + b) + c * 256 = 2 ^ 8 * (65536 * a + 256 * b + c) by omega, u32_or _ _ (by omega) (by omega), ← Nat.two_pow_add_eq_or_of_lt (i := 8) (by omega) (65536 * a + 256 * b + c)]
  unfold be4
  omega
end Go.Proofs.YtgfoeongjhkdmaaGreat
namespace Go.Proofs.YtgfoeongjhkdmaaGreat
open Go.ChangeShapes Go.WideShapes Go.ChangeAt Go.RowKit
set_option maxRecDepth 100000 in
theorem cell_word {W : World} {r : Reach} {b0 : Nat} {v : Value} (h : Cell.okWide Tryz.prog W r b0 22 v) : ∃ n : Nat, n < 18446744073709551616 ∧ v = .int .u64 (n : Int) := by
  cases v <;> first | (simp [Cell.okWide, Cell.ok, Tryz.underlying22] at h; done) | skip
  case int k n =>
    obtain ⟨rfl, g⟩ : k = .u64 ∧ IntKind.has .u64 n := by simpa [Cell.okWide, Cell.ok, Tryz.underlying22] using h
    obtain ⟨g1, g2⟩ : IntKind.min .u64 ≤ n ∧ n ≤ IntKind.max .u64 := g
    have e1 : IntKind.min .u64 = 0 := rfl
    have e2 : IntKind.max .u64 = 18446744073709551615 := rfl
    obtain ⟨m, rfl⟩ := Int.eq_ofNat_of_zero_le (by omega : 0 ≤ n)
    exact ⟨m, by omega, rfl⟩
set_option maxRecDepth 100000 in
theorem cell_byte {W : World} {r : Reach} {b0 : Nat} {v : Value} (h : Cell.okWide Tryz.prog W r b0 5 v) : ∃ n : Nat, n < 256 ∧ v = .int .u8 (n : Int) := by
  cases v <;> first | (simp [Cell.okWide, Cell.ok, Tryz.underlying5] at h; done) | skip
  case int k n =>
    obtain ⟨rfl, g⟩ : k = .u8 ∧ IntKind.has .u8 n := by simpa [Cell.okWide, Cell.ok, Tryz.underlying5] using h
    obtain ⟨g1, g2⟩ : IntKind.min .u8 ≤ n ∧ n ≤ IntKind.max .u8 := g
    have e1 : IntKind.min .u8 = 0 := rfl
    have e2 : IntKind.max .u8 = 255 := rfl
    obtain ⟨m, rfl⟩ := Int.eq_ofNat_of_zero_le (by omega : 0 ≤ n)
    exact ⟨m, by omega, rfl⟩
set_option maxRecDepth 100000 in
theorem row_cell {W : World} {r : Reach} {b0 : Nat} {t : TypeId} {cs : Array Value} {ts : List TypeId} (h : Row.okWide Tryz.prog W r b0 t cs) (ht : Tryz.prog.cellTypes Tryz.prog.depth t = some ts) {i : Nat} {v : Value} {u : TypeId} (hv : cs[i]? = some v) (hu : ts[i % ts.length]? = some u) : Cell.okWide Tryz.prog W r b0 u v := by
  obtain ⟨ts', h1, _, h2⟩ := h
  rw [ht] at h1
  obtain rfl := Option.some.inj h1
  obtain ⟨u', h3, h4⟩ := h2 i v hv
  rw [hu] at h3
  obtain rfl := Option.some.inj h3
  exact h4
set_option maxRecDepth 100000 in
theorem flat_num {W : World} {r : Reach} {b0 : Nat} {c0 c1 c2 c3 : Value} (h0 : Cell.okWide Tryz.prog W r b0 22 c0) (h1 : Cell.okWide Tryz.prog W r b0 22 c1) (h2 : Cell.okWide Tryz.prog W r b0 22 c2) (h3 : Cell.okWide Tryz.prog W r b0 22 c3) : ∃ a, a < B ∧ [c0, c1, c2, c3] = nl a := by
  obtain ⟨n0, l0, rfl⟩ := cell_word h0
  obtain ⟨n1, l1, rfl⟩ := cell_word h1
  obtain ⟨n2, l2, rfl⟩ := cell_word h2
  obtain ⟨n3, l3, rfl⟩ := cell_word h3
  exact ⟨ofW n0 n1 n2 n3, ofW_lt _ _ _ _ l0 l1 l2 l3, (nl_ofW n0 n1 n2 n3 l0 l1 l2 l3).symm⟩
end Go.Proofs.YtgfoeongjhkdmaaGreat
namespace Go.Proofs.YtgfoeongjhkdmaaGreat
open Go.ChangeShapes Go.WideShapes Go.ChangeAt Go.RowKit
theorem seg (l : List Value) (i n : Nat) : l.drop i = (l.drop i).take n ++ l.drop (i + n) := by
  rw [← List.drop_drop]
  exact (List.take_append_drop n _).symm
theorem take_four (l : List Value) (i : Nat) (h : i + 4 ≤ l.length) : ∃ c0 c1 c2 c3, l[i + 0]? = some c0 ∧ l[i + 1]? = some c1 ∧ l[i + 2]? = some c2 ∧ l[i + 3]? = some c3 ∧ (l.drop i).take 4 = [c0, c1, c2, c3] := by
  have e := fun k => (List.getElem?_drop (xs := l) (i := i) (j := k)).symm
  have hl : (l.drop i).length = l.length - i := List.length_drop
  match hd : l.drop i, e, hl with
  | [], _, hl => exfalso; simp at hl; omega
  | [_], _, hl => exfalso; simp at hl; omega
  | [_, _], _, hl => exfalso; simp at hl; omega
  | [_, _, _], _, hl => exfalso; simp at hl; omega
  | c0 :: c1 :: c2 :: c3 :: r, e, _ => exact ⟨c0, c1, c2, c3, e 0, e 1, e 2, e 3, rfl⟩
set_option maxRecDepth 100000 in
theorem flat_at {W : World} {r : Reach} {b0 : Nat} {t : TypeId} {l : List Value} {ts : List TypeId} (h : Row.okWide Tryz.prog W r b0 t l.toArray) (ht : Tryz.prog.cellTypes Tryz.prog.depth t = some ts) (i : Nat) (hi : i + 4 ≤ l.length) (hts : ∀ k, k < 4 → ts[(i + k) % ts.length]? = some 22) : ∃ a, a < B ∧ (l.drop i).take 4 = nl a := by
  obtain ⟨c0, c1, c2, c3, h0, h1, h2, h3, e⟩ := take_four l i hi
  have c := fun (k : Nat) (hk : k < 4) (v : Value) (hv : l[i + k]? = some v) => row_cell (i := i + k) (v := v) h ht (by simpa using hv) (hts k hk)
  obtain ⟨a, la, ea⟩ := flat_num (c 0 (by decide) _ h0) (c 1 (by decide) _ h1) (c 2 (by decide) _ h2) (c 3 (by decide) _ h3)
  exact ⟨a, la, by rw [e]; exact ea⟩
end Go.Proofs.YtgfoeongjhkdmaaGreat
