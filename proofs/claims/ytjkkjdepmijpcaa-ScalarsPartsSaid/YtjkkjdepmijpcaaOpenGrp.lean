/- Groups, and four long numbers, among a row's arguments: read, and read again. -/
import Derived.Test.YtjkkjdepmijpcaaOpen
import Derived.Test.YtjkkjdepmijpcaaScal
import Derived.ChangeArms
import Derived.ChangeSame
set_option linter.unusedSimpArgs false
set_option linter.unusedVariables false
namespace Go.Proofs.Ytjkkjdepmijpcaa
open Go.ChangeShapes Go.WideShapes Go.ChangeAt Go.RowKit
noncomputable def grpD {H : Type} (a b c d : Nat) : DataW H := .agg [numD a, numD b, numD c, numD d]
theorem list4' {α : Type} (l : List α) (h : l.length = 4) : ∃ a b c d, l = [a, b, c, d] := by
  match l, h with
  | [a, b, c, d], _ => exact ⟨a, b, c, d, rfl⟩
theorem trod_num {H : Type} {enc : TypeId × Value → H} {W : World} {base fuel : Nat} {sp : Nat → Bool} {held : Bool} {cs : List Value} {y : DataW H × List MemPlace} (hl : cs.length = 4) (hf : DataW.trod enc Try.prog W base sp held fuel 24 cs = some y) :
    ∃ a, a < B ∧ cs = nl a ∧ y = (numD a, []) := by
  obtain ⟨c0, c1, c2, c3, rfl⟩ := list4' cs hl
  obtain ⟨y0, y1, y2, y3, m, hx, hy0, hy1, hy2, hy3⟩ := trod_array4 Try.underlying24 cells_u64 hf
  obtain ⟨x0, e0, rfl, w0⟩ := DataW.trod_int Try.underlying22 hy0
  obtain ⟨x1, e1, rfl, w1⟩ := DataW.trod_int Try.underlying22 hy1
  obtain ⟨x2, e2, rfl, w2⟩ := DataW.trod_int Try.underlying22 hy2
  obtain ⟨x3, e3, rfl, w3⟩ := DataW.trod_int Try.underlying22 hy3
  simp at e0 e1 e2 e3
  subst e0 e1 e2 e3
  subst hx
  obtain ⟨n0, rfl⟩ := Int.eq_ofNat_of_zero_le (wf_u64 w0).1
  obtain ⟨n1, rfl⟩ := Int.eq_ofNat_of_zero_le (wf_u64 w1).1
  obtain ⟨n2, rfl⟩ := Int.eq_ofNat_of_zero_le (wf_u64 w2).1
  obtain ⟨n3, rfl⟩ := Int.eq_ofNat_of_zero_le (wf_u64 w3).1
  have b0 := (wf_u64 w0).2
  have b1 := (wf_u64 w1).2
  have b2 := (wf_u64 w2).2
  have b3 := (wf_u64 w3).2
  have e := nl_ofW n0 n1 n2 n3 (by omega) (by omega) (by omega) (by omega)
  refine ⟨ofW n0 n1 n2 n3, ofW_lt _ _ _ _ (by omega) (by omega) (by omega) (by omega), e.symm, ?_⟩
  unfold nl at e
  simp only [List.cons.injEq, Value.int.injEq, true_and, and_true] at e
  obtain ⟨k0, k1, k2, k3⟩ := e
  unfold numD
  rw [k0, k1, k2, k3]
  simp
theorem split4 (l : List Value) (hl : l.length = 16) : l = (l.drop 0).take 4 ++ ((l.drop 4).take 4 ++ ((l.drop 8).take 4 ++ (l.drop 12).take 4)) := by
  have t3 : (l.drop 12).take 4 = l.drop 12 := List.take_of_length_le (by simp; omega)
  have t2 : l.drop 8 = (l.drop 8).take 4 ++ (l.drop 8).drop 4 := (List.take_append_drop 4 (l.drop 8)).symm
  have t1 : l.drop 4 = (l.drop 4).take 4 ++ (l.drop 4).drop 4 := (List.take_append_drop 4 (l.drop 4)).symm
  rw [List.drop_drop] at t1 t2
  rw [t3, ← t2, ← t1, List.drop_zero, List.take_append_drop]
theorem cells_grp : Try.prog.cellsOf 26 = 16 := by kernel_rfl
set_option maxRecDepth 100000 in
theorem open_grp {H : Type} {enc : TypeId × Value → H} {W : World} {base b0 : Nat} {r : Reach} {sp : Nat → Bool} {held : Bool} {v : Value} {d : DataW H} {ps : List MemPlace} (hval : Value.okWide Try.prog W r b0 26 v) (hd : DataW.Trod enc Try.prog W base sp held 26 v d ps) :
    ∃ a b c e, a < B ∧ b < B ∧ c < B ∧ e < B ∧ v = grp a b c e ∧ d = grpD a b c e ∧ ps = [] := by
  obtain ⟨cs, rfl, hsz, _⟩ : ∃ cs, v = .agg cs ∧ cs.size = Try.prog.cellsOf 26 ∧ Row.okWide Try.prog W r b0 26 cs := by
    simpa [Value.okWide, Try.underlying26] using hval
  rw [cells_grp] at hsz
  obtain ⟨l⟩ := cs
  have hl : l.length = 16 := by simpa using hsz
  obtain ⟨fuel, hf⟩ := hd
  change DataW.trod enc Try.prog W base sp held fuel 26 l = some (d, ps) at hf
  obtain ⟨xs, m, _, hx, _, hn, hi⟩ := DataW.trod_struct Try.underlying26 hf
  obtain ⟨x0, x1, x2, x3, rfl⟩ := list4' xs hn
  have h0 := hi 0 _ rfl
  have h1 := hi 1 _ rfl
  have h2 := hi 2 _ rfl
  have h3 := hi 3 _ rfl
  change DataW.trod enc Try.prog W base sp held m 24 ((l.drop 0).take (Try.prog.cellsOf 24)) = some x0 at h0
  change DataW.trod enc Try.prog W base sp held m 24 ((l.drop 4).take (Try.prog.cellsOf 24)) = some x1 at h1
  change DataW.trod enc Try.prog W base sp held m 24 ((l.drop 8).take (Try.prog.cellsOf 24)) = some x2 at h2
  change DataW.trod enc Try.prog W base sp held m 24 ((l.drop 12).take (Try.prog.cellsOf 24)) = some x3 at h3
  rw [cells_num] at h0 h1 h2 h3
  have e := split4 l hl
  obtain ⟨a, la, ea, rfl⟩ := trod_num (by simp; omega) h0
  obtain ⟨b, lb, eb, rfl⟩ := trod_num (by simp; omega) h1
  obtain ⟨c, lc, ec, rfl⟩ := trod_num (by simp; omega) h2
  obtain ⟨f, lf, ef, rfl⟩ := trod_num (by simp; omega) h3
  rw [show (l.drop 0).take 4 = nl a from ea, show (l.drop 4).take 4 = nl b from eb, show (l.drop 8).take 4 = nl c from ec, show (l.drop 12).take 4 = nl f from ef] at e
  simp only [Prod.mk.injEq] at hx
  obtain ⟨rfl, rfl⟩ := hx
  exact ⟨a, b, c, f, la, lb, lc, lf, by rw [e]; rfl, rfl, by simp⟩
set_option maxRecDepth 100000 in
theorem shut_grp {H : Type} {enc : TypeId × Value → H} {W : World} {base : Nat} {sp : Nat → Bool} {held : Bool} (a b c e : Nat) : DataW.Trod enc Try.prog W base sp held 26 (grp a b c e) (grpD a b c e) [] :=
  ⟨3, by
    unfold grp gl grpD numD
    simp [DataW.trod, Value.cells, Try.underlying26, Try.underlying24, Try.underlying22, cells_grp, cells_num, cells_u64, wf_wd, show List.range 4 = [0, 1, 2, 3] from rfl]⟩
theorem cells_num4 : Try.prog.cellsOf 38 = 16 := by kernel_rfl
set_option maxRecDepth 100000 in
theorem open_num4 {H : Type} {enc : TypeId × Value → H} {W : World} {base b0 : Nat} {r : Reach} {sp : Nat → Bool} {held : Bool} {v : Value} {d : DataW H} {ps : List MemPlace} (hval : Value.okWide Try.prog W r b0 38 v) (hd : DataW.Trod enc Try.prog W base sp held 38 v d ps) :
    ∃ a b c e, a < B ∧ b < B ∧ c < B ∧ e < B ∧ v = grp a b c e ∧ d = grpD a b c e ∧ ps = [] := by
  obtain ⟨cs, rfl, hsz, _⟩ : ∃ cs, v = .agg cs ∧ cs.size = Try.prog.cellsOf 38 ∧ Row.okWide Try.prog W r b0 38 cs := by
    simpa [Value.okWide, Try.underlying38] using hval
  rw [cells_num4] at hsz
  obtain ⟨l⟩ := cs
  have hl : l.length = 16 := by simpa using hsz
  obtain ⟨fuel, hf⟩ := hd
  change DataW.trod enc Try.prog W base sp held fuel 38 l = some (d, ps) at hf
  obtain ⟨xs, m, _, hx, _, hn, hi⟩ := DataW.trod_array Try.underlying38 hf
  rw [cells_num] at hi
  obtain ⟨x0, x1, x2, x3, rfl⟩ := list4' xs hn
  have h0 := hi 0 (by decide)
  have h1 := hi 1 (by decide)
  have h2 := hi 2 (by decide)
  have h3 := hi 3 (by decide)
  have e := split4 l hl
  obtain ⟨a, la, ea, rfl⟩ := trod_num (by simp; omega) h0
  obtain ⟨b, lb, eb, rfl⟩ := trod_num (by simp; omega) h1
  obtain ⟨c, lc, ec, rfl⟩ := trod_num (by simp; omega) h2
  obtain ⟨f, lf, ef, rfl⟩ := trod_num (by simp; omega) h3
  rw [show (l.drop 0).take 4 = nl a from ea, show (l.drop 4).take 4 = nl b from eb, show (l.drop 8).take 4 = nl c from ec, show (l.drop 12).take 4 = nl f from ef] at e
  simp only [Prod.mk.injEq] at hx
  obtain ⟨rfl, rfl⟩ := hx
  exact ⟨a, b, c, f, la, lb, lc, lf, by rw [e]; rfl, rfl, by simp⟩
set_option maxRecDepth 100000 in
theorem shut_num4 {H : Type} {enc : TypeId × Value → H} {W : World} {base : Nat} {sp : Nat → Bool} {held : Bool} (a b c e : Nat) : DataW.Trod enc Try.prog W base sp held 38 (grp a b c e) (grpD a b c e) [] :=
  ⟨3, by
    unfold grp gl grpD numD
    simp [DataW.trod, Value.cells, Try.underlying38, Try.underlying24, Try.underlying22, cells_num4, cells_num, cells_u64, wf_wd, show List.range 4 = [0, 1, 2, 3] from rfl]⟩
end Go.Proofs.Ytjkkjdepmijpcaa
