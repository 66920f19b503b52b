/- The contract of balefireref05.table; append to nothing. -/
import Derived.Test.YthbcgcncoggagaaVShaRef
import Derived.Test.YthbcgcncoggagaaVD
import Derived.Test.YthbcgcncoggagaaVA
import Derived.Deep.Cut
set_option linter.unusedVariables false
set_option linter.unusedSimpArgs false
namespace Go.Proofs.Ythbcgcncoggagaa
open Go.RowKit
attribute [local irreducible] Calls
end Go.Proofs.Ythbcgcncoggagaa
namespace Go.Proofs.Ythbcgcncoggagaa
open Go.RowKit
attribute [local irreducible] Calls
theorem Rep.bare {B0 : Nat} {w0 w : World} {L : List (Nat × Obj)} (h : Rep B0 w0 L w) : Rep B0 w0 [] w := h.weaken (List.nil_sublist _)
theorem xBs.any {B0 : Nat} {w0 : World} {L : List (Nat × Obj)} {v : Value} {xs : List Nat} (h : xBs B0 w0 [] v xs) : xBs B0 w0 L v xs := h.mono fun w hw => hw.bare
theorem cut_low {B0 : Nat} {w0 : World} {v : Value} {xs : List Nat} (h : xBs B0 w0 [] v xs) {k : Nat} (hk : k ≤ xs.length) : ∃ v1, (∀ w, (Instr.sliceAt 91 v none (some (.int .i64 (k : Int))) none).run Try.prog w = .ok v1 w) ∧ xBs B0 w0 [] v1 (xs.take k) := by
  obtain ⟨a, cap, rfl, h1, h2, h3, h4⟩ := h
  unfold maxLen at h2
  have g0 : 0 ≤ (k : Int) := by omega
  have g1 : (k : Int) ≤ (cap : Int) := by omega
  have hb : ∀ j, (xs.take k).getD j 0 < 256 := fun j => by
    by_cases hj : j < k
    · rw [xCu _ _ _ hj]; exact h3 j
    · rw [List.getD_eq_getElem?_getD, List.getElem?_eq_none (by simp; omega)]; exact (by decide : 0 < 256)
  have hl : (xs.take k).length = k := by simp; omega
  by_cases hx : xs = []
  · subst hx
    obtain rfl : k = 0 := by simpa using hk
    refine ⟨.slice (if cap = 0 then a else a.map (·.add 0)) 0 cap, fun w => ?_, ⟨_, cap, rfl, by simp, by unfold maxLen; omega, hb, fun h => absurd rfl h⟩⟩
    go_simp
  · obtain ⟨bb, off, rfl, h5⟩ := h4 hx
    have hc : ¬ cap = 0 := fun h => hx (List.length_eq_zero_iff.1 (by omega))
    refine ⟨.slice (some ⟨bb, off, none⟩) k cap, fun w => ?_, ⟨_, cap, by rw [hl], by omega, by unfold maxLen; omega, hb, fun _ => ⟨bb, off, rfl, fun w hw j hj => ?_⟩⟩⟩
    · go_simp
    · rw [h5 w hw j (by omega), xCu _ _ _ (by omega)]
theorem cut_high {B0 : Nat} {w0 : World} {v : Value} {xs : List Nat} (h : xBs B0 w0 [] v xs) {k : Nat} (hk : k ≤ xs.length) : ∃ v1, (∀ w, (Instr.sliceAt 91 v (some (.int .i64 (k : Int))) none none).run Try.prog w = .ok v1 w) ∧ xBs B0 w0 [] v1 (xs.drop k) := by
  obtain ⟨a, cap, rfl, h1, h2, h3, h4⟩ := h
  have hb : ∀ j, (xs.drop k).getD j 0 < 256 := fun j => by
    rw [List.getD_eq_getElem?_getD, List.getElem?_drop, ← List.getD_eq_getElem?_getD]; exact h3 _
  have hl : (xs.drop k).length = xs.length - k := by simp
  by_cases hx : xs = []
  · subst hx
    obtain rfl : k = 0 := by simpa using hk
    have h2' := h2
    unfold maxLen at h2
    refine ⟨.slice (if cap = 0 then a else a.map (·.add 0)) 0 cap, fun w => ?_, ⟨_, cap, rfl, by simp, h2', hb, fun h => absurd rfl h⟩⟩
    go_simp
  · obtain ⟨bb, off, rfl, h5⟩ := h4 hx
    refine ⟨_, cut_slice bb off xs.length cap k hk h1 h2, ⟨_, cap - k, by rw [hl], by omega, by omega, hb, fun hd => ?_⟩⟩
    have hlt : k < xs.length := by
      have : (xs.drop k).length ≠ 0 := fun h => hd (List.length_eq_zero_iff.1 h)
      omega
    refine ⟨bb, off + k, by rw [if_neg (by omega)], fun w hw j hj => ?_⟩
    rw [Nat.add_assoc, h5 w hw (k + j) (by omega), List.getD_eq_getElem?_getD, List.getD_eq_getElem?_getD, List.getElem?_drop]
end Go.Proofs.Ythbcgcncoggagaa
namespace Go.Proofs.Ythbcgcncoggagaa
open Go.RowKit
attribute [local irreducible] Calls
end Go.Proofs.Ythbcgcncoggagaa
namespace Go.Proofs.Ythbcgcncoggagaa
open Go.RowKit
attribute [local irreducible] Calls
section
variable {B0 : Nat} {w0 w : World} {L : List (Nat × Obj)}
theorem cell_load {ty : TypeId} [hT : CellT Try.prog ty] {ad : Addr} {v : Value} {w : World} (h : w.cell? ad = some v) : (loadVar ty ad).run Try.prog w = .ok v w := by
  obtain ⟨d, hu, hd, hi⟩ := hT.is
  have hagg : (isAgg ty).run Try.prog w = .ok false w := by
    unfold isAgg
    rw [Sem.run_bind, run_underlying hu w]
    cases d <;> simp_all
  have hl : (load ad).run Try.prog w = .ok v w := by
    simp only [load, Sem.run, h]
  unfold loadVar
  rw [Sem.run_bind, hagg]
  simp only [Result.andThen_ok, Bool.false_eq_true, if_false]
  exact hl
theorem xCt {ops : Array Oper} {rest : List Oper} {o : Oper} {a : Act} {Q : Exit → Act → World → Prop} (hg : o.guard = none) {ty : TypeId} {x : Operand} (ho : o.op = .load ty x) {ad : Addr} (hx : a.eval x = .pointer (some ad)) {v : Value}
    (hrun : (loadVar ty ad).run Try.prog w = .ok v w) (h : wpList Try.prog ops Q rest (a.put o.dst v) w) : wpList Try.prog ops Q (o :: rest) a w :=
  wpList_plain hg fun _ hK => by
    unfold Oper.wp execOp
    simp only [ho, hx, Instr.loadAt, Instr.sureAddr, Sem.run_bind, Sem.run_pure, Result.andThen_ok, hrun]
    exact hK _ _ h
end
end Go.Proofs.Ythbcgcncoggagaa
