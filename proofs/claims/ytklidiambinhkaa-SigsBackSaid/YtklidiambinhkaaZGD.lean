/- balefirelaw13.Given among a row's arguments. -/
import Derived.Test.YtklidiambinhkaaZB
import Derived.Test.YtklidiambinhkaaZGA
set_option linter.unusedVariables false
set_option linter.unusedSimpArgs false
namespace Go.Proofs.Ytklidiambinhkaa
open Go.ChangeShapes Go.WideShapes Go.ChangeAt Go.RowKit
noncomputable def gvL (s d k : Nat) (H : Nat → Nat) (c S : Nat) : List Value := nl s ++ (nl d ++ (nl k ++ (u8s 32 H ++ nl2 c S)))
noncomputable abbrev gv (s d k : Nat) (H : Nat → Nat) (c S : Nat) : Value := .agg (gvL s d k H c S).toArray
theorem gv_s (s d k : Nat) (H : Nat → Nat) (c S : Nat) : ((gvL s d k H c S).drop 0).take 4 = nl s := rfl
theorem gv_d (s d k : Nat) (H : Nat → Nat) (c S : Nat) : ((gvL s d k H c S).drop 4).take 4 = nl d := rfl
theorem gv_k (s d k : Nat) (H : Nat → Nat) (c S : Nat) : ((gvL s d k H c S).drop 8).take 4 = nl k := rfl
theorem gv_h (s d k : Nat) (H : Nat → Nat) (c S : Nat) : ((gvL s d k H c S).drop 12).take 32 = u8s 32 H := by
  show (u8s 32 H ++ nl2 c S).take 32 = _
  rw [List.take_append_of_le_length (by simp)]
  exact List.take_of_length_le (by simp)
theorem gv_g (s d k : Nat) (H : Nat → Nat) (c S : Nat) : (gvL s d k H c S).drop 44 = nl2 c S := by
  have e : (gvL s d k H c S).drop 44 = ((gvL s d k H c S).drop 12).drop 32 := by rw [List.drop_drop]
  rw [e]
  show (u8s 32 H ++ nl2 c S).drop 32 = _
  rw [List.drop_append_of_le_length (by simp), List.drop_of_length_le (by simp), List.nil_append]
theorem gv_z (s d k : Nat) (H : Nat → Nat) (c S : Nat) : ((gvL s d k H c S).drop 44).take 8 = nl2 c S := by
  rw [gv_g]; rfl
theorem gv_c (s d k : Nat) (H : Nat → Nat) (c S : Nat) : ((gvL s d k H c S).drop 44).take 4 = nl c := by
  rw [gv_g]; rfl
theorem gv_w (s d k : Nat) (H : Nat → Nat) (c S : Nat) : ((gvL s d k H c S).drop 48).take 4 = nl S := by
  have e : (gvL s d k H c S).drop 48 = ((gvL s d k H c S).drop 44).drop 4 := by rw [List.drop_drop]
  rw [e, gv_g]; rfl
instance rowGiven : RowT Try.prog 32 52 := .mk' (by kernel_rfl) (by kernel_rfl)
theorem cells_given : Try.prog.cellsOf 32 = 52 := by kernel_rfl
def tsGiven : List TypeId := List.replicate 12 22 ++ (List.replicate 32 5 ++ List.replicate 8 22)
theorem types_given : Try.prog.cellTypes Try.prog.depth 32 = some tsGiven := by kernel_rfl
theorem bytes_at (l : List Value) (i n : Nat) (hl : i + n ≤ l.length) (hb : ∀ k, (h : k < n) → ∃ m : Nat, m < 256 ∧ l[i + k]? = some (.int .u8 (m : Int))) : ∃ H : Nat → Nat, (∀ j, H j < 256) ∧ (l.drop i).take n = u8s n H := by
  refine ⟨fun j => if h : j < n then (hb j h).choose else 0, fun j => ?_, ?_⟩
  · show (if h : j < n then (hb j h).choose else 0) < 256
    split
    · rename_i h
      exact (hb j h).choose_spec.1
    · decide
  · refine List.ext_getElem? fun j => ?_
    by_cases h : j < n
    · rw [List.getElem?_take_of_lt h, List.getElem?_drop, u8s_at h]
      exact (hb j h).choose_spec.2.trans (by simp only [h, dif_pos])
    · rw [List.getElem?_eq_none (by simp; omega), List.getElem?_eq_none (by simp; omega)]
set_option maxRecDepth 100000 in
theorem is_given {W : World} {r : Reach} {b0 : Nat} {v : Value} (hval : Value.okWide Try.prog W r b0 32 v) : ∃ s d k c S H, s < B ∧ d < B ∧ k < B ∧ c < B ∧ S < B ∧ (∀ j, H j < 256) ∧ v = gv s d k H c S := by
  obtain ⟨cs, rfl, hsz, h2⟩ : ∃ cs, v = .agg cs ∧ cs.size = Try.prog.cellsOf 32 ∧ Row.okWide Try.prog W r b0 32 cs := by
    simpa [Value.okWide, Try.underlying32] using hval
  rw [cells_given] at hsz
  obtain ⟨l⟩ := cs
  have hl : l.length = 52 := by simpa using hsz
  have f := fun i hi hts => flat_at (l := l) h2 types_given i hi hts
  obtain ⟨s, ls, es⟩ := f 0 (by omega) (by decide)
  obtain ⟨d, ld, ed⟩ := f 4 (by omega) (by decide)
  obtain ⟨k, lk, ek⟩ := f 8 (by omega) (by decide)
  obtain ⟨c, lc, ec⟩ := f 44 (by omega) (by decide)
  obtain ⟨S, lS, eS⟩ := f 48 (by omega) (by decide)
  obtain ⟨H, hH, eH⟩ := bytes_at l 12 32 (by omega) (fun j hj => by
    obtain ⟨m, lm, em⟩ := cell_byte (row_cell (i := 12 + j) (v := l[12 + j]) h2 types_given (by simp) ((by decide : ∀ j, j < 32 → tsGiven[(12 + j) % tsGiven.length]? = some 5) j hj))
    exact ⟨m, lm, by rw [← em]; simp⟩)
  refine ⟨s, d, k, c, S, H, ls, ld, lk, lc, lS, hH, ?_⟩
  have e0 := seg l 0 4
  have e1 := seg l 4 4
  have e2 := seg l 8 4
  have e3 := seg l 12 32
  have e4 := seg l 44 4
  have e5 := seg l 48 4
  rw [List.drop_zero] at e0
  rw [show l.drop (48 + 4) = [] from List.drop_of_length_le (by omega), List.append_nil, eS] at e5
  rw [show l.drop (44 + 4) = l.drop 48 from rfl, e5, ec] at e4
  rw [show l.drop (12 + 32) = l.drop 44 from rfl, e4, eH] at e3
  rw [show l.drop (8 + 4) = l.drop 12 from rfl, e3, ek] at e2
  rw [show l.drop (4 + 4) = l.drop 8 from rfl, e2, ed] at e1
  rw [List.drop_zero] at es
  rw [show l.drop (0 + 4) = l.drop 4 from rfl, e1, es] at e0
  rw [e0]
  rfl
end Go.Proofs.Ytklidiambinhkaa
namespace Go.Proofs.Ytklidiambinhkaa
open Go.ChangeShapes Go.WideShapes Go.ChangeAt Go.RowKit
theorem cells_hash : Try.prog.cellsOf 28 = 32 := by kernel_rfl
theorem types_hash : Try.prog.cellTypes Try.prog.depth 28 = some (List.replicate 32 5) := by kernel_rfl
set_option maxRecDepth 100000 in
theorem is_hash {W : World} {r : Reach} {b0 : Nat} {v : Value} (hval : Value.okWide Try.prog W r b0 28 v) : ∃ H : Nat → Nat, (∀ j, H j < 256) ∧ v = .agg (u8s 32 H).toArray := by
  obtain ⟨cs, rfl, hsz, h2⟩ : ∃ cs, v = .agg cs ∧ cs.size = Try.prog.cellsOf 28 ∧ Row.okWide Try.prog W r b0 28 cs := by
    simpa [Value.okWide, Try.underlying28] using hval
  rw [cells_hash] at hsz
  obtain ⟨l⟩ := cs
  have hl : l.length = 32 := by simpa using hsz
  obtain ⟨H, hH, eH⟩ := bytes_at l 0 32 (by omega) (fun j hj => by
    obtain ⟨m, lm, em⟩ := cell_byte (row_cell (i := 0 + j) (v := l[0 + j]) h2 types_hash (by simp) ((by decide : ∀ j, j < 32 → (List.replicate 32 5)[(0 + j) % (List.replicate 32 5).length]? = some 5) j hj))
    exact ⟨m, lm, by rw [← em]; simp⟩)
  refine ⟨H, hH, ?_⟩
  rw [← eH, List.drop_zero, List.take_of_length_le (by omega)]
end Go.Proofs.Ytklidiambinhkaa
