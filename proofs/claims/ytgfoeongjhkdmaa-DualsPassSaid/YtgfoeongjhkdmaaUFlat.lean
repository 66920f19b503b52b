/- Flat values among a row's arguments, told cell by cell. -/
import Derived.WalkKit
import Derived.ProofKit
import Derived.OpenShut
import Derived.Test.YtgfoeongjhkdmaaUA
set_option linter.unusedVariables false
set_option linter.unusedSimpArgs false
namespace Go.Proofs.Ytgfoeongjhkdmaa
open Go.ChangeShapes Go.WideShapes Go.ChangeAt Go.RowKit
set_option maxRecDepth 100000 in
theorem cell_word {W : World} {r : Reach} {b0 : Nat} {v : Value} (h : Cell.okWide Try.prog W r b0 22 v) : ∃ n : Nat, n < 18446744073709551616 ∧ v = .int .u64 (n : Int) := by
  cases v <;> first | (simp [Cell.okWide, Cell.ok, Try.underlying22] at h; done) | skip
  case int k n =>
    obtain ⟨rfl, g⟩ : k = .u64 ∧ IntKind.has .u64 n := by simpa [Cell.okWide, Cell.ok, Try.underlying22] using h
    obtain ⟨g1, g2⟩ : IntKind.min .u64 ≤ n ∧ n ≤ IntKind.max .u64 := g
    have e1 : IntKind.min .u64 = 0 := rfl
    have e2 : IntKind.max .u64 = 18446744073709551615 := rfl
    obtain ⟨m, rfl⟩ := Int.eq_ofNat_of_zero_le (by omega : 0 ≤ n)
    exact ⟨m, by omega, rfl⟩
set_option maxRecDepth 100000 in
theorem cell_byte {W : World} {r : Reach} {b0 : Nat} {v : Value} (h : Cell.okWide Try.prog W r b0 5 v) : ∃ n : Nat, n < 256 ∧ v = .int .u8 (n : Int) := by
  cases v <;> first | (simp [Cell.okWide, Cell.ok, Try.underlying5] at h; done) | skip
  case int k n =>
    obtain ⟨rfl, g⟩ : k = .u8 ∧ IntKind.has .u8 n := by simpa [Cell.okWide, Cell.ok, Try.underlying5] using h
    obtain ⟨g1, g2⟩ : IntKind.min .u8 ≤ n ∧ n ≤ IntKind.max .u8 := g
    have e1 : IntKind.min .u8 = 0 := rfl
    have e2 : IntKind.max .u8 = 255 := rfl
    obtain ⟨m, rfl⟩ := Int.eq_ofNat_of_zero_le (by omega : 0 ≤ n)
    exact ⟨m, by omega, rfl⟩
set_option maxRecDepth 100000 in
theorem row_cell {W : World} {r : Reach} {b0 : Nat} {t : TypeId} {cs : Array Value} {ts : List TypeId} (h : Row.okWide Try.prog W r b0 t cs) (ht : Try.prog.cellTypes Try.prog.depth t = some ts) {i : Nat} {v : Value} {u : TypeId} (hv : cs[i]? = some v) (hu : ts[i % ts.length]? = some u) : Cell.okWide Try.prog W r b0 u v := by
  obtain ⟨ts', h1, _, h2⟩ := h
  rw [ht] at h1
  obtain rfl := Option.some.inj h1
  obtain ⟨u', h3, h4⟩ := h2 i v hv
  rw [hu] at h3
  obtain rfl := Option.some.inj h3
  exact h4
end Go.Proofs.Ytgfoeongjhkdmaa
