/- balefirelaw14.Given among a row's arguments. -/
import Derived.Test.YthbcgcncoggagaaVB
import Derived.Test.YthbcgcncoggagaaVPB
set_option linter.unusedVariables false
set_option linter.unusedSimpArgs false
namespace Go.Proofs.Ythbcgcncoggagaa
open Go.ChangeShapes Go.WideShapes Go.ChangeAt Go.RowKit
noncomputable def pvL (s : ByteArray) (x base y a b d c S : Nat) : List Value := .string s :: (nl x ++ (nl base ++ (nl y ++ (nl a ++ (nl b ++ (nl d ++ nl2 c S))))))
noncomputable abbrev pv (s : ByteArray) (x base y a b d c S : Nat) : Value := .agg (pvL s x base y a b d c S).toArray
instance rowGiven14 : RowT Try.prog 30 33 := .mk' (by kernel_rfl) (by kernel_rfl)
theorem cells_given14 : Try.prog.cellsOf 30 = 33 := by kernel_rfl
def tsGiven14 : List TypeId := 9 :: List.replicate 32 22
theorem types_given14 : Try.prog.cellTypes Try.prog.depth 30 = some tsGiven14 := by kernel_rfl
set_option maxRecDepth 100000 in
theorem is_given14 {W : World} {r : Reach} {b0 : Nat} {v : Value} (hval : Value.okWide Try.prog W r b0 30 v) : ∃ s x base y a b d c S, x < B ∧ base < B ∧ y < B ∧ a < B ∧ b < B ∧ d < B ∧ c < B ∧ S < B ∧ v = pv s x base y a b d c S := by
  obtain ⟨cs, rfl, hsz, h2⟩ : ∃ cs, v = .agg cs ∧ cs.size = Try.prog.cellsOf 30 ∧ Row.okWide Try.prog W r b0 30 cs := by
    simpa [Value.okWide, Try.underlying30] using hval
  rw [cells_given14] at hsz
  obtain ⟨l⟩ := cs
  have hl : l.length = 33 := by simpa using hsz
  have f := fun i hi hts => flat_at (l := l) h2 types_given14 i hi hts
  obtain ⟨x, lx, ex⟩ := f 1 (by omega) (by decide)
  obtain ⟨base, lb, eb⟩ := f 5 (by omega) (by decide)
  obtain ⟨y, ly, ey⟩ := f 9 (by omega) (by decide)
  obtain ⟨a, la, ea⟩ := f 13 (by omega) (by decide)
  obtain ⟨b, lb', eb'⟩ := f 17 (by omega) (by decide)
  obtain ⟨d, ld, ed⟩ := f 21 (by omega) (by decide)
  obtain ⟨c, lc, ec⟩ := f 25 (by omega) (by decide)
  obtain ⟨S, lS, eS⟩ := f 29 (by omega) (by decide)
  match l, hl, h2, ex, eb, ey, ea, eb', ed, ec, eS with
  | v0 :: l, hl, h2, ex, eb, ey, ea, eb', ed, ec, eS =>
    obtain ⟨s, rfl⟩ := cell_text (row_cell (i := 0) h2 types_given14 rfl (by decide))
    refine ⟨s, x, base, y, a, b, d, c, S, lx, lb, ly, la, lb', ld, lc, lS, ?_⟩
    have hl' : l.length = 32 := by simpa using hl
    have e0 := seg l 0 4
    have e1 := seg l 4 4
    have e2 := seg l 8 4
    have e3 := seg l 12 4
    have e4 := seg l 16 4
    have e5 := seg l 20 4
    have e6 := seg l 24 4
    have e7 := seg l 28 4
    rw [show l.drop (28 + 4) = [] from List.drop_of_length_le (by omega), List.append_nil, show (l.drop 28).take 4 = nl S from eS] at e7
    rw [show l.drop (24 + 4) = l.drop 28 from rfl, e7, show (l.drop 24).take 4 = nl c from ec] at e6
    rw [show l.drop (20 + 4) = l.drop 24 from rfl, e6, show (l.drop 20).take 4 = nl d from ed] at e5
    rw [show l.drop (16 + 4) = l.drop 20 from rfl, e5, show (l.drop 16).take 4 = nl b from eb'] at e4
    rw [show l.drop (12 + 4) = l.drop 16 from rfl, e4, show (l.drop 12).take 4 = nl a from ea] at e3
    rw [show l.drop (8 + 4) = l.drop 12 from rfl, e3, show (l.drop 8).take 4 = nl y from ey] at e2
    rw [show l.drop (4 + 4) = l.drop 8 from rfl, e2, show (l.drop 4).take 4 = nl base from eb] at e1
    rw [show l.drop (0 + 4) = l.drop 4 from rfl, e1, show (l.drop 0).take 4 = nl x from ex, List.drop_zero] at e0
    rw [e0]
    rfl
end Go.Proofs.Ythbcgcncoggagaa
