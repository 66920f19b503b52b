/- balefirelaw06.Times among a row's arguments. -/
import Derived.Test.YtlkjbkdnfmbcnaaZB
import Derived.Test.YtlkjbkdnfmbcnaaZHNumber
set_option linter.unusedSimpArgs false
set_option linter.unusedVariables false
namespace Go.Proofs.Ytlkjbkdnfmbcnaa
open Go.ChangeShapes Go.WideShapes Go.ChangeAt Go.RowKit
set_option maxRecDepth 100000 in
theorem cell_half {W : World} {r : Reach} {b0 : Nat} {v : Value} (h : Cell.okWide Try.prog W r b0 47 v) : ∃ n : Nat, n < 65536 ∧ v = .int .u16 (n : Int) := by
  cases v <;> first | (simp [Cell.okWide, Cell.ok, Try.underlying47] at h; done) | skip
  case int k n =>
    obtain ⟨rfl, g⟩ : k = .u16 ∧ IntKind.has .u16 n := by simpa [Cell.okWide, Cell.ok, Try.underlying47] using h
    obtain ⟨g1, g2⟩ : IntKind.min .u16 ≤ n ∧ n ≤ IntKind.max .u16 := g
    have e1 : IntKind.min .u16 = 0 := rfl
    have e2 : IntKind.max .u16 = 65535 := rfl
    obtain ⟨m, rfl⟩ := Int.eq_ofNat_of_zero_le (by omega : 0 ≤ n)
    exact ⟨m, by omega, rfl⟩
theorem cells_times : Try.prog.cellsOf 49 = 5 := by kernel_rfl
theorem types_times : Try.prog.cellTypes Try.prog.depth 49 = some [23, 23, 23, 23, 47] := by kernel_rfl
set_option maxRecDepth 100000 in
theorem is_times {W : World} {r : Reach} {b0 : Nat} {v : Value} (hval : Value.okWide Try.prog W r b0 49 v) : ∃ m k, m < B ∧ k < 65536 ∧ v = times6 m k := by
  obtain ⟨cs, rfl, hsz, h2⟩ : ∃ cs, v = .agg cs ∧ cs.size = Try.prog.cellsOf 49 ∧ Row.okWide Try.prog W r b0 49 cs := by
    simpa [Value.okWide, Try.underlying49] using hval
  rw [cells_times] at hsz
  obtain ⟨l⟩ := cs
  match l, hsz, h2 with
  | [a, b, c, d, e], _, h2 =>
    obtain ⟨m, lm, em⟩ := flat_num (row_cell h2 types_times (i := 0) rfl rfl) (row_cell h2 types_times (i := 1) rfl rfl) (row_cell h2 types_times (i := 2) rfl rfl) (row_cell h2 types_times (i := 3) rfl rfl)
    obtain ⟨k, lk, rfl⟩ := cell_half (row_cell h2 types_times (i := 4) rfl rfl)
    refine ⟨m, k, lm, lk, ?_⟩
    replace em : [a, b, c, d] = nl m := em
    show Value.agg ([a, b, c, d] ++ [Value.int .u16 (k : Int)]).toArray = _
    rw [em]
    rfl
end Go.Proofs.Ytlkjbkdnfmbcnaa
