/- A long number among a row's arguments: read, and read again. -/
import Derived.WalkKit
import Derived.ProofKit
import Derived.OpenShut
import Derived.Laws.IdiomArrays
import Derived.Test.YtdmdkdodfngjiaaNum
set_option linter.unusedSimpArgs false
set_option linter.unusedVariables false
namespace Go.Proofs.Ytdmdkdodfngjiaa
open Go.ChangeShapes Go.WideShapes Go.ChangeAt Go.RowKit

/-- A long number as data. -/
noncomputable def numD {H : Type} (a : Nat) : DataW H := .agg [.lit (.int .u64 (wd a 0)), .lit (.int .u64 (wd a 1)), .lit (.int .u64 (wd a 2)), .lit (.int .u64 (wd a 3))]
theorem cells_num : Try.prog.cellsOf 24 = 4 := by kernel_rfl
theorem list4 {α : Type} (l : List α) (h : (⟨l⟩ : Array α).size = 4) : ∃ a b c d, l = [a, b, c, d] := by
  match l, h with
  | [a, b, c, d], _ => exact ⟨a, b, c, d, rfl⟩
theorem wf_u64 {x : Int} (h : (Lit.int .u64 x).wf = true) : 0 ≤ x ∧ x < 18446744073709551616 := by
  simp [Lit.wf, IntKind.min, IntKind.max, IntKind.signed, IntKind.bits] at h
  exact ⟨by omega, by omega⟩
theorem wf_wd (a i : Nat) : (Lit.int .u64 (wd a i)).wf = true := by
  have h1 := wd_lo a i
  have h2 := wd_hi a i
  simp [Lit.wf, IntKind.min, IntKind.max, IntKind.signed, IntKind.bits]
  exact ⟨h1, by omega⟩
set_option maxRecDepth 100000 in
theorem open_num {H : Type} {enc : TypeId × Value → H} {W : World} {base b0 : Nat} {r : Reach} {sp : Nat → Bool} {held : Bool} {v : Value} {d : DataW H} {ps : List MemPlace} (hval : Value.okWide Try.prog W r b0 24 v) (hd : DataW.Trod enc Try.prog W base sp held 24 v d ps) :
    ∃ a, a < B ∧ v = num a ∧ d = numD a ∧ ps = [] := by
  obtain ⟨cs, rfl, hsz, _⟩ : ∃ cs, v = .agg cs ∧ cs.size = Try.prog.cellsOf 24 ∧ Row.okWide Try.prog W r b0 24 cs := by
    simpa [Value.okWide, Try.underlying24] using hval
  rw [cells_num] at hsz
  obtain ⟨l⟩ := cs
  obtain ⟨c0, c1, c2, c3, rfl⟩ := list4 l hsz
  obtain ⟨fuel, hf⟩ := hd
  obtain ⟨y0, y1, y2, y3, m, hx, hy0, hy1, hy2, hy3⟩ := trod_array4 Try.underlying24 cells_u64 hf
  obtain ⟨x0, e0, rfl, w0⟩ := DataW.trod_int Try.underlying22 hy0
  obtain ⟨x1, e1, rfl, w1⟩ := DataW.trod_int Try.underlying22 hy1
  obtain ⟨x2, e2, rfl, w2⟩ := DataW.trod_int Try.underlying22 hy2
  obtain ⟨x3, e3, rfl, w3⟩ := DataW.trod_int Try.underlying22 hy3
  simp at e0 e1 e2 e3
  subst e0 e1 e2 e3
  simp only [Prod.mk.injEq] at hx
  obtain ⟨rfl, rfl⟩ := hx
  obtain ⟨n0, rfl⟩ := Int.eq_ofNat_of_zero_le (wf_u64 w0).1
  obtain ⟨n1, rfl⟩ := Int.eq_ofNat_of_zero_le (wf_u64 w1).1
  obtain ⟨n2, rfl⟩ := Int.eq_ofNat_of_zero_le (wf_u64 w2).1
  obtain ⟨n3, rfl⟩ := Int.eq_ofNat_of_zero_le (wf_u64 w3).1
  have b0 := (wf_u64 w0).2
  have b1 := (wf_u64 w1).2
  have b2 := (wf_u64 w2).2
  have b3 := (wf_u64 w3).2
  have e := nl_ofW n0 n1 n2 n3 (by omega) (by omega) (by omega) (by omega)
  refine ⟨ofW n0 n1 n2 n3, ofW_lt _ _ _ _ (by omega) (by omega) (by omega) (by omega), ?_, ?_, by simp⟩
  · show _ = Value.agg (nl _).toArray
    rw [e]
  · unfold nl at e
    simp only [List.cons.injEq, Value.int.injEq, true_and, and_true] at e
    obtain ⟨k0, k1, k2, k3⟩ := e
    unfold numD
    rw [k0, k1, k2, k3]
theorem shut_num {H : Type} {enc : TypeId × Value → H} {W : World} {base : Nat} {sp : Nat → Bool} {held : Bool} (a : Nat) : DataW.Trod enc Try.prog W base sp held 24 (num a) (numD a) [] :=
  ⟨2, by
    unfold num nl numD
    simp [DataW.trod, Value.cells, Try.underlying24, Try.underlying22, cells_num, cells_u64, wf_wd, show List.range 4 = [0, 1, 2, 3] from rfl]⟩
end Go.Proofs.Ytdmdkdodfngjiaa
