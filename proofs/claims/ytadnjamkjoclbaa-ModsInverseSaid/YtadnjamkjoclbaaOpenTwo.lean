/- Pairs among a row's arguments: read, and read again. -/
import Derived.Test.YtadnjamkjoclbaaOpenThree
import Derived.Test.YtadnjamkjoclbaaPairs
set_option linter.unusedSimpArgs false
set_option linter.unusedVariables false
namespace Go.Proofs.Ytadnjamkjoclbaa
open Go.ChangeShapes Go.WideShapes Go.ChangeAt Go.RowKit
theorem list2 {α : Type} (l : List α) (h : l.length = 2) : ∃ a b, l = [a, b] := by
  match l, h with
  | [a, b], _ => exact ⟨a, b, rfl⟩

noncomputable def u64D2 {H : Type} (a b : Nat) : DataW H := .agg [.lit (.int .u64 (a : Int)), .lit (.int .u64 (b : Int))]
theorem cells_u64p : Try.prog.cellsOf 55 = 2 := by kernel_rfl
theorem cells_u64e : Try.prog.cellsOf 22 = 1 := by kernel_rfl
theorem wf2_u64 {x : Int} (h : (Lit.int .u64 x).wf = true) : 0 ≤ x ∧ x < 18446744073709551616 := by
  simp [Lit.wf, IntKind.min, IntKind.max, IntKind.signed, IntKind.bits] at h
  exact ⟨by omega, by omega⟩
theorem wf2_u64_mk {a : Nat} (h : a < 18446744073709551616) : (Lit.int .u64 (a : Int)).wf = true := by
  simp [Lit.wf, IntKind.min, IntKind.max, IntKind.signed, IntKind.bits]
  omega
theorem open_u642 {H : Type} {enc : TypeId × Value → H} {W : World} {base b0 : Nat} {r : Reach} {sp : Nat → Bool} {held : Bool} {v : Value} {d : DataW H} {ps : List MemPlace} (hval : Value.okWide Try.prog W r b0 55 v) (hd : DataW.Trod enc Try.prog W base sp held 55 v d ps) :
    ∃ a b : Nat, a < 18446744073709551616 ∧ b < 18446744073709551616 ∧ v = u64x2 a b ∧ d = u64D2 a b ∧ ps = [] := by
  obtain ⟨cs, rfl, hsz, _⟩ : ∃ cs, v = .agg cs ∧ cs.size = Try.prog.cellsOf 55 ∧ Row.okWide Try.prog W r b0 55 cs := by
    simpa [Value.okWide, Try.underlying55] using hval
  rw [cells_u64p] at hsz
  obtain ⟨l⟩ := cs
  obtain ⟨c0, c1, rfl⟩ := list2 l (by simpa using hsz)
  obtain ⟨fuel, hf⟩ := hd
  change DataW.trod enc Try.prog W base sp held fuel 55 [c0, c1] = some (d, ps) at hf
  obtain ⟨xs, m, _, hx, _, hn, hi⟩ := DataW.trod_array Try.underlying55 hf
  rw [cells_u64e] at hi
  obtain ⟨x0, x1, rfl⟩ := list2 xs hn
  have h0 := hi 0 (by decide)
  have h1 := hi 1 (by decide)
  change DataW.trod enc Try.prog W base sp held m 22 [c0] = some x0 at h0
  change DataW.trod enc Try.prog W base sp held m 22 [c1] = some x1 at h1
  obtain ⟨y0, e0, rfl, w0⟩ := DataW.trod_int Try.underlying22 h0
  obtain ⟨y1, e1, rfl, w1⟩ := DataW.trod_int Try.underlying22 h1
  simp at e0 e1
  subst e0 e1
  obtain ⟨n0, rfl⟩ := Int.eq_ofNat_of_zero_le (wf2_u64 w0).1
  obtain ⟨n1, rfl⟩ := Int.eq_ofNat_of_zero_le (wf2_u64 w1).1
  have b0 := (wf2_u64 w0).2
  have b1 := (wf2_u64 w1).2
  simp only [Prod.mk.injEq] at hx
  obtain ⟨rfl, rfl⟩ := hx
  exact ⟨n0, n1, by omega, by omega, rfl, rfl, by simp⟩
theorem shut_u642 {H : Type} {enc : TypeId × Value → H} {W : World} {base : Nat} {sp : Nat → Bool} {held : Bool} (a b : Nat) (ha : a < 18446744073709551616) (hb : b < 18446744073709551616) : DataW.Trod enc Try.prog W base sp held 55 (u64x2 a b) (u64D2 a b) [] :=
  ⟨2, by
    unfold u64x2 u64D2
    simp [DataW.trod, Value.cells, Try.underlying55, Try.underlying22, cells_u64p, cells_u64e, wf2_u64_mk ha, wf2_u64_mk hb, show List.range 2 = [0, 1] from rfl]⟩

noncomputable def u32D2 {H : Type} (a b : Nat) : DataW H := .agg [.lit (.int .u32 (a : Int)), .lit (.int .u32 (b : Int))]
theorem cells_u32p : Try.prog.cellsOf 52 = 2 := by kernel_rfl
theorem cells_u32e : Try.prog.cellsOf 47 = 1 := by kernel_rfl
theorem wf2_u32 {x : Int} (h : (Lit.int .u32 x).wf = true) : 0 ≤ x ∧ x < 4294967296 := by
  simp [Lit.wf, IntKind.min, IntKind.max, IntKind.signed, IntKind.bits] at h
  exact ⟨by omega, by omega⟩
theorem wf2_u32_mk {a : Nat} (h : a < 4294967296) : (Lit.int .u32 (a : Int)).wf = true := by
  simp [Lit.wf, IntKind.min, IntKind.max, IntKind.signed, IntKind.bits]
  omega
theorem open_u322 {H : Type} {enc : TypeId × Value → H} {W : World} {base b0 : Nat} {r : Reach} {sp : Nat → Bool} {held : Bool} {v : Value} {d : DataW H} {ps : List MemPlace} (hval : Value.okWide Try.prog W r b0 52 v) (hd : DataW.Trod enc Try.prog W base sp held 52 v d ps) :
    ∃ a b : Nat, a < 4294967296 ∧ b < 4294967296 ∧ v = u32x2 a b ∧ d = u32D2 a b ∧ ps = [] := by
  obtain ⟨cs, rfl, hsz, _⟩ : ∃ cs, v = .agg cs ∧ cs.size = Try.prog.cellsOf 52 ∧ Row.okWide Try.prog W r b0 52 cs := by
    simpa [Value.okWide, Try.underlying52] using hval
  rw [cells_u32p] at hsz
  obtain ⟨l⟩ := cs
  obtain ⟨c0, c1, rfl⟩ := list2 l (by simpa using hsz)
  obtain ⟨fuel, hf⟩ := hd
  change DataW.trod enc Try.prog W base sp held fuel 52 [c0, c1] = some (d, ps) at hf
  obtain ⟨xs, m, _, hx, _, hn, hi⟩ := DataW.trod_array Try.underlying52 hf
  rw [cells_u32e] at hi
  obtain ⟨x0, x1, rfl⟩ := list2 xs hn
  have h0 := hi 0 (by decide)
  have h1 := hi 1 (by decide)
  change DataW.trod enc Try.prog W base sp held m 47 [c0] = some x0 at h0
  change DataW.trod enc Try.prog W base sp held m 47 [c1] = some x1 at h1
  obtain ⟨y0, e0, rfl, w0⟩ := DataW.trod_int Try.underlying47 h0
  obtain ⟨y1, e1, rfl, w1⟩ := DataW.trod_int Try.underlying47 h1
  simp at e0 e1
  subst e0 e1
  obtain ⟨n0, rfl⟩ := Int.eq_ofNat_of_zero_le (wf2_u32 w0).1
  obtain ⟨n1, rfl⟩ := Int.eq_ofNat_of_zero_le (wf2_u32 w1).1
  have b0 := (wf2_u32 w0).2
  have b1 := (wf2_u32 w1).2
  simp only [Prod.mk.injEq] at hx
  obtain ⟨rfl, rfl⟩ := hx
  exact ⟨n0, n1, by omega, by omega, rfl, rfl, by simp⟩
theorem shut_u322 {H : Type} {enc : TypeId × Value → H} {W : World} {base : Nat} {sp : Nat → Bool} {held : Bool} (a b : Nat) (ha : a < 4294967296) (hb : b < 4294967296) : DataW.Trod enc Try.prog W base sp held 52 (u32x2 a b) (u32D2 a b) [] :=
  ⟨2, by
    unfold u32x2 u32D2
    simp [DataW.trod, Value.cells, Try.underlying52, Try.underlying47, cells_u32p, cells_u32e, wf2_u32_mk ha, wf2_u32_mk hb, show List.range 2 = [0, 1] from rfl]⟩

noncomputable def numD2 {H : Type} (a b : Nat) : DataW H := .agg [numD a, numD b]
theorem cells_num2 : Try.prog.cellsOf 51 = 8 := by kernel_rfl
theorem open_num2 {H : Type} {enc : TypeId × Value → H} {W : World} {base b0 : Nat} {r : Reach} {sp : Nat → Bool} {held : Bool} {v : Value} {d : DataW H} {ps : List MemPlace} (hval : Value.okWide Try.prog W r b0 51 v) (hd : DataW.Trod enc Try.prog W base sp held 51 v d ps) :
    ∃ a b, a < B ∧ b < B ∧ v = num2 a b ∧ d = numD2 a b ∧ ps = [] := by
  obtain ⟨cs, rfl, hsz, _⟩ : ∃ cs, v = .agg cs ∧ cs.size = Try.prog.cellsOf 51 ∧ Row.okWide Try.prog W r b0 51 cs := by
    simpa [Value.okWide, Try.underlying51] using hval
  rw [cells_num2] at hsz
  obtain ⟨l⟩ := cs
  have hl : l.length = 8 := by simpa using hsz
  obtain ⟨fuel, hf⟩ := hd
  change DataW.trod enc Try.prog W base sp held fuel 51 l = some (d, ps) at hf
  obtain ⟨xs, m, _, hx, _, hn, hi⟩ := DataW.trod_array Try.underlying51 hf
  rw [cells_num] at hi
  obtain ⟨x0, x1, rfl⟩ := list2 xs hn
  have h0 := hi 0 (by decide)
  have h1 := hi 1 (by decide)
  have e : l = (l.drop (0 * 4)).take 4 ++ (l.drop (1 * 4)).take 4 := by
    have t1 : (l.drop 4).take 4 = l.drop 4 := List.take_of_length_le (by simp; omega)
    show l = (l.drop 0).take 4 ++ (l.drop 4).take 4
    rw [t1, List.drop_zero, List.take_append_drop]
  obtain ⟨a, la, ea, rfl⟩ := trod_num (by simp; omega) h0
  obtain ⟨b, lb, eb, rfl⟩ := trod_num (by simp; omega) h1
  rw [ea, eb] at e
  simp only [Prod.mk.injEq] at hx
  obtain ⟨rfl, rfl⟩ := hx
  exact ⟨a, b, la, lb, by rw [e]; rfl, rfl, by simp⟩
theorem shut_num2 {H : Type} {enc : TypeId × Value → H} {W : World} {base : Nat} {sp : Nat → Bool} {held : Bool} (a b : Nat) : DataW.Trod enc Try.prog W base sp held 51 (num2 a b) (numD2 a b) [] :=
  ⟨3, by
    unfold num2 nl2 numD2 numD
    simp [DataW.trod, Value.cells, Try.underlying51, Try.underlying24, Try.underlying22, cells_num2, cells_num, cells_u64, wf_wd, show List.range 4 = [0, 1, 2, 3] from rfl, show List.range 2 = [0, 1] from rfl]⟩
end Go.Proofs.Ytadnjamkjoclbaa
