/- Pairs among a row's arguments: read, and read again. -/
import Derived.Test.YtgfoeongjhkdmaaJV
import Derived.Test.YtgfoeongjhkdmaaJM
set_option linter.unusedVariables false
set_option linter.unusedSimpArgs false
namespace Go.Proofs.Ytgfoeongjhkdmaa
open Go.ChangeShapes Go.WideShapes Go.ChangeAt Go.RowKit
theorem list2 {α : Type} (l : List α) (h : l.length = 2) : ∃ a b, l = [a, b] := by
  match l, h with
  | [a, b], _ => exact ⟨a, b, rfl⟩
noncomputable def numD2 {H : Type} (a b : Nat) : DataW H := .agg [numD a, numD b]
set_option maxRecDepth 100000 in
theorem cells_num2 : Try.prog.cellsOf 37 = 8 := by kernel_rfl
set_option maxRecDepth 100000 in
theorem open_num2 {H : Type} {enc : TypeId × Value → H} {W : World} {base b0 : Nat} {r : Reach} {sp : Nat → Bool} {held : Bool} {v : Value} {d : DataW H} {ps : List MemPlace} (hval : Value.okWide Try.prog W r b0 37 v) (hd : DataW.Trod enc Try.prog W base sp held 37 v d ps) :
    ∃ a b, a < B ∧ b < B ∧ v = num2 a b ∧ d = numD2 a b ∧ ps = [] := by
  obtain ⟨cs, rfl, hsz, _⟩ : ∃ cs, v = .agg cs ∧ cs.size = Try.prog.cellsOf 37 ∧ Row.okWide Try.prog W r b0 37 cs := by
    simpa [Value.okWide, Try.underlying37] using hval
  rw [cells_num2] at hsz
  obtain ⟨l⟩ := cs
  have hl : l.length = 8 := by simpa using hsz
  obtain ⟨fuel, hf⟩ := hd
  change DataW.trod enc Try.prog W base sp held fuel 37 l = some (d, ps) at hf
  obtain ⟨xs, m, _, hx, _, hn, hi⟩ := DataW.trod_array Try.underlying37 hf
  rw [cells_num] at hi
  obtain ⟨x0, x1, rfl⟩ := list2 xs hn
  have h0 := hi 0 (by decide)
  have h1 := hi 1 (by decide)
  have e : l = (l.drop (0 * 4)).take 4 ++ (l.drop (1 * 4)).take 4 := by
    have t1 : (l.drop 4).take 4 = l.drop 4 := List.take_of_length_le (by simp; omega)
    show l = (l.drop 0).take 4 ++ (l.drop 4).take 4
    rw [t1, List.drop_zero, List.take_append_drop]
  obtain ⟨a, la, ea, rfl⟩ := trod_num (by simp; omega) h0
  obtain ⟨b, lb, eb, rfl⟩ := trod_num (by simp; omega) h1
  rw [ea, eb] at e
  simp only [Prod.mk.injEq] at hx
  obtain ⟨rfl, rfl⟩ := hx
  exact ⟨a, b, la, lb, by rw [e]; rfl, rfl, by simp⟩
set_option maxRecDepth 100000 in
theorem shut_num2 {H : Type} {enc : TypeId × Value → H} {W : World} {base : Nat} {sp : Nat → Bool} {held : Bool} (a b : Nat) : DataW.Trod enc Try.prog W base sp held 37 (num2 a b) (numD2 a b) [] :=
  ⟨3, by
    unfold num2 nl2 numD2 numD
    simp [DataW.trod, Value.cells, Try.underlying37, Try.underlying24, Try.underlying22, cells_num2, cells_num, cells_u64, wf_wd, show List.range 4 = [0, 1, 2, 3] from rfl, show List.range 2 = [0, 1] from rfl]⟩
end Go.Proofs.Ytgfoeongjhkdmaa
