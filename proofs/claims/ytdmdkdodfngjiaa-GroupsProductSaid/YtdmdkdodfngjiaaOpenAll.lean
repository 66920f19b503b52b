/- OpenAll: Open, OpenThree, OpenTwo, OpenGrp. -/
import Derived.WalkKit
import Derived.ProofKit
import Derived.OpenShut
import Derived.Laws.IdiomArrays
import Derived.Test.YtdmdkdodfngjiaaNum
import Derived.Test.YtdmdkdodfngjiaaWideLaw
import Derived.Test.YtdmdkdodfngjiaaPairs
import Derived.Test.YtdmdkdodfngjiaaScal
import Derived.ChangeArms
import Derived.ChangeSame
set_option linter.unusedSimpArgs false
set_option linter.unusedVariables false
/- A long number among a row's arguments: read, and read again. -/
namespace Go.Proofs.Ytdmdkdodfngjiaa
open Go.ChangeShapes Go.WideShapes Go.ChangeAt Go.RowKit

/-- A long number as data. -/
noncomputable def numD {H : Type} (a : Nat) : DataW H := .agg [.lit (.int .u64 (wd a 0)), .lit (.int .u64 (wd a 1)), .lit (.int .u64 (wd a 2)), .lit (.int .u64 (wd a 3))]
theorem cells_num : Try.prog.cellsOf 24 = 4 := by kernel_rfl
theorem list4 {α : Type} (l : List α) (h : (⟨l⟩ : Array α).size = 4) : ∃ a b c d, l = [a, b, c, d] := by
  match l, h with
  | [a, b, c, d], _ => exact ⟨a, b, c, d, rfl⟩
theorem wf_u64 {x : Int} (h : (Lit.int .u64 x).wf = true) : 0 ≤ x ∧ x < 18446744073709551616 := by
  simp [Lit.wf, IntKind.min, IntKind.max, IntKind.signed, IntKind.bits] at h
  exact ⟨by omega, by omega⟩
theorem wf_wd (a i : Nat) : (Lit.int .u64 (wd a i)).wf = true := by
  have h1 := wd_lo a i
  have h2 := wd_hi a i
  simp [Lit.wf, IntKind.min, IntKind.max, IntKind.signed, IntKind.bits]
  exact ⟨h1, by omega⟩
set_option maxRecDepth 100000 in
theorem open_num {H : Type} {enc : TypeId × Value → H} {W : World} {base b0 : Nat} {r : Reach} {sp : Nat → Bool} {held : Bool} {v : Value} {d : DataW H} {ps : List MemPlace} (hval : Value.okWide Try.prog W r b0 24 v) (hd : DataW.Trod enc Try.prog W base sp held 24 v d ps) :
    ∃ a, a < B ∧ v = num a ∧ d = numD a ∧ ps = [] := by
  obtain ⟨cs, rfl, hsz, _⟩ : ∃ cs, v = .agg cs ∧ cs.size = Try.prog.cellsOf 24 ∧ Row.okWide Try.prog W r b0 24 cs := by
    simpa [Value.okWide, Try.underlying24] using hval
  rw [cells_num] at hsz
  obtain ⟨l⟩ := cs
  obtain ⟨c0, c1, c2, c3, rfl⟩ := list4 l hsz
  obtain ⟨fuel, hf⟩ := hd
  obtain ⟨y0, y1, y2, y3, m, hx, hy0, hy1, hy2, hy3⟩ := trod_array4 Try.underlying24 cells_u64 hf
  obtain ⟨x0, e0, rfl, w0⟩ := DataW.trod_int Try.underlying22 hy0
  obtain ⟨x1, e1, rfl, w1⟩ := DataW.trod_int Try.underlying22 hy1
  obtain ⟨x2, e2, rfl, w2⟩ := DataW.trod_int Try.underlying22 hy2
  obtain ⟨x3, e3, rfl, w3⟩ := DataW.trod_int Try.underlying22 hy3
  simp at e0 e1 e2 e3
  subst e0 e1 e2 e3
  simp only [Prod.mk.injEq] at hx
  obtain ⟨rfl, rfl⟩ := hx
  obtain ⟨n0, rfl⟩ := Int.eq_ofNat_of_zero_le (wf_u64 w0).1
  obtain ⟨n1, rfl⟩ := Int.eq_ofNat_of_zero_le (wf_u64 w1).1
  obtain ⟨n2, rfl⟩ := Int.eq_ofNat_of_zero_le (wf_u64 w2).1
  obtain ⟨n3, rfl⟩ := Int.eq_ofNat_of_zero_le (wf_u64 w3).1
  have b0 := (wf_u64 w0).2
  have b1 := (wf_u64 w1).2
  have b2 := (wf_u64 w2).2
  have b3 := (wf_u64 w3).2
  have e := nl_ofW n0 n1 n2 n3 (by omega) (by omega) (by omega) (by omega)
  refine ⟨ofW n0 n1 n2 n3, ofW_lt _ _ _ _ (by omega) (by omega) (by omega) (by omega), ?_, ?_, by simp⟩
  · show _ = Value.agg (nl _).toArray
    rw [e]
  · unfold nl at e
    simp only [List.cons.injEq, Value.int.injEq, true_and, and_true] at e
    obtain ⟨k0, k1, k2, k3⟩ := e
    unfold numD
    rw [k0, k1, k2, k3]
theorem shut_num {H : Type} {enc : TypeId × Value → H} {W : World} {base : Nat} {sp : Nat → Bool} {held : Bool} (a : Nat) : DataW.Trod enc Try.prog W base sp held 24 (num a) (numD a) [] :=
  ⟨2, by
    unfold num nl numD
    simp [DataW.trod, Value.cells, Try.underlying24, Try.underlying22, cells_num, cells_u64, wf_wd, show List.range 4 = [0, 1, 2, 3] from rfl]⟩
end Go.Proofs.Ytdmdkdodfngjiaa

/- Three long numbers among a row's arguments: read, and read again. -/
namespace Go.Proofs.Ytdmdkdodfngjiaa
open Go.ChangeShapes Go.WideShapes Go.ChangeAt Go.RowKit

noncomputable def numD3 {H : Type} (a b c : Nat) : DataW H := .agg [numD a, numD b, numD c]
set_option maxRecDepth 100000 in
theorem cells_num3 : Try.prog.cellsOf 25 = 12 := by kernel_rfl
set_option maxRecDepth 100000 in
theorem trod_num {H : Type} {enc : TypeId × Value → H} {W : World} {base fuel : Nat} {sp : Nat → Bool} {held : Bool} {cs : List Value} {y : DataW H × List MemPlace} (hl : cs.length = 4) (hf : DataW.trod enc Try.prog W base sp held fuel 24 cs = some y) :
    ∃ a, a < B ∧ cs = nl a ∧ y = (numD a, []) := by
  obtain ⟨c0, c1, c2, c3, rfl⟩ := list4 cs (by simpa using hl)
  obtain ⟨y0, y1, y2, y3, m, hx, hy0, hy1, hy2, hy3⟩ := trod_array4 Try.underlying24 cells_u64 hf
  obtain ⟨x0, e0, rfl, w0⟩ := DataW.trod_int Try.underlying22 hy0
  obtain ⟨x1, e1, rfl, w1⟩ := DataW.trod_int Try.underlying22 hy1
  obtain ⟨x2, e2, rfl, w2⟩ := DataW.trod_int Try.underlying22 hy2
  obtain ⟨x3, e3, rfl, w3⟩ := DataW.trod_int Try.underlying22 hy3
  simp at e0 e1 e2 e3
  subst e0 e1 e2 e3
  subst hx
  obtain ⟨n0, rfl⟩ := Int.eq_ofNat_of_zero_le (wf_u64 w0).1
  obtain ⟨n1, rfl⟩ := Int.eq_ofNat_of_zero_le (wf_u64 w1).1
  obtain ⟨n2, rfl⟩ := Int.eq_ofNat_of_zero_le (wf_u64 w2).1
  obtain ⟨n3, rfl⟩ := Int.eq_ofNat_of_zero_le (wf_u64 w3).1
  have b0 := (wf_u64 w0).2
  have b1 := (wf_u64 w1).2
  have b2 := (wf_u64 w2).2
  have b3 := (wf_u64 w3).2
  have e := nl_ofW n0 n1 n2 n3 (by omega) (by omega) (by omega) (by omega)
  refine ⟨ofW n0 n1 n2 n3, ofW_lt _ _ _ _ (by omega) (by omega) (by omega) (by omega), e.symm, ?_⟩
  unfold nl at e
  simp only [List.cons.injEq, Value.int.injEq, true_and, and_true] at e
  obtain ⟨k0, k1, k2, k3⟩ := e
  unfold numD
  rw [k0, k1, k2, k3]
  simp
set_option maxRecDepth 100000 in
theorem open_num3 {H : Type} {enc : TypeId × Value → H} {W : World} {base b0 : Nat} {r : Reach} {sp : Nat → Bool} {held : Bool} {v : Value} {d : DataW H} {ps : List MemPlace} (hval : Value.okWide Try.prog W r b0 25 v) (hd : DataW.Trod enc Try.prog W base sp held 25 v d ps) :
    ∃ a b c, a < B ∧ b < B ∧ c < B ∧ v = num3 a b c ∧ d = numD3 a b c ∧ ps = [] := by
  obtain ⟨cs, rfl, hsz, _⟩ : ∃ cs, v = .agg cs ∧ cs.size = Try.prog.cellsOf 25 ∧ Row.okWide Try.prog W r b0 25 cs := by
    simpa [Value.okWide, Try.underlying25] using hval
  rw [cells_num3] at hsz
  obtain ⟨l⟩ := cs
  have hl : l.length = 12 := by simpa using hsz
  obtain ⟨fuel, hf⟩ := hd
  change DataW.trod enc Try.prog W base sp held fuel 25 l = some (d, ps) at hf
  obtain ⟨xs, m, _, hx, _, hn, hi⟩ := DataW.trod_array Try.underlying25 hf
  rw [cells_num] at hi
  obtain ⟨x0, x1, x2, rfl⟩ : ∃ x0 x1 x2, xs = [x0, x1, x2] := by
    match xs, hn with
    | [x0, x1, x2], _ => exact ⟨x0, x1, x2, rfl⟩
  have h0 := hi 0 (by decide)
  have h1 := hi 1 (by decide)
  have h2 := hi 2 (by decide)
  have e : l = (l.drop (0 * 4)).take 4 ++ ((l.drop (1 * 4)).take 4 ++ (l.drop (2 * 4)).take 4) := by
    have t2 : (l.drop 8).take 4 = l.drop 8 := List.take_of_length_le (by simp; omega)
    have t1 : l.drop 4 = (l.drop 4).take 4 ++ (l.drop 4).drop 4 := (List.take_append_drop 4 (l.drop 4)).symm
    rw [List.drop_drop] at t1
    show l = (l.drop 0).take 4 ++ ((l.drop 4).take 4 ++ (l.drop 8).take 4)
    rw [t2, ← t1, List.drop_zero, List.take_append_drop]
  obtain ⟨a, la, ea, rfl⟩ := trod_num (by simp; omega) h0
  obtain ⟨b, lb, eb, rfl⟩ := trod_num (by simp; omega) h1
  obtain ⟨c, lc, ec, rfl⟩ := trod_num (by simp; omega) h2
  rw [ea, eb, ec] at e
  simp only [Prod.mk.injEq] at hx
  obtain ⟨rfl, rfl⟩ := hx
  exact ⟨a, b, c, la, lb, lc, by rw [e]; rfl, rfl, by simp⟩
set_option maxRecDepth 100000 in
theorem shut_num3 {H : Type} {enc : TypeId × Value → H} {W : World} {base : Nat} {sp : Nat → Bool} {held : Bool} (a b c : Nat) : DataW.Trod enc Try.prog W base sp held 25 (num3 a b c) (numD3 a b c) [] :=
  ⟨3, by
    unfold num3 nl3 numD3 numD
    simp [DataW.trod, Value.cells, Try.underlying25, Try.underlying24, Try.underlying22, cells_num3, cells_num, cells_u64, wf_wd, show List.range 4 = [0, 1, 2, 3] from rfl, show List.range 3 = [0, 1, 2] from rfl]⟩
end Go.Proofs.Ytdmdkdodfngjiaa

/- Pairs among a row's arguments: read, and read again. -/
namespace Go.Proofs.Ytdmdkdodfngjiaa
open Go.ChangeShapes Go.WideShapes Go.ChangeAt Go.RowKit
theorem list2 {α : Type} (l : List α) (h : l.length = 2) : ∃ a b, l = [a, b] := by
  match l, h with
  | [a, b], _ => exact ⟨a, b, rfl⟩

noncomputable def numD2 {H : Type} (a b : Nat) : DataW H := .agg [numD a, numD b]
set_option maxRecDepth 100000 in
theorem cells_num2 : Try.prog.cellsOf 37 = 8 := by kernel_rfl
set_option maxRecDepth 100000 in
theorem open_num2 {H : Type} {enc : TypeId × Value → H} {W : World} {base b0 : Nat} {r : Reach} {sp : Nat → Bool} {held : Bool} {v : Value} {d : DataW H} {ps : List MemPlace} (hval : Value.okWide Try.prog W r b0 37 v) (hd : DataW.Trod enc Try.prog W base sp held 37 v d ps) :
    ∃ a b, a < B ∧ b < B ∧ v = num2 a b ∧ d = numD2 a b ∧ ps = [] := by
  obtain ⟨cs, rfl, hsz, _⟩ : ∃ cs, v = .agg cs ∧ cs.size = Try.prog.cellsOf 37 ∧ Row.okWide Try.prog W r b0 37 cs := by
    simpa [Value.okWide, Try.underlying37] using hval
  rw [cells_num2] at hsz
  obtain ⟨l⟩ := cs
  have hl : l.length = 8 := by simpa using hsz
  obtain ⟨fuel, hf⟩ := hd
  change DataW.trod enc Try.prog W base sp held fuel 37 l = some (d, ps) at hf
  obtain ⟨xs, m, _, hx, _, hn, hi⟩ := DataW.trod_array Try.underlying37 hf
  rw [cells_num] at hi
  obtain ⟨x0, x1, rfl⟩ := list2 xs hn
  have h0 := hi 0 (by decide)
  have h1 := hi 1 (by decide)
  have e : l = (l.drop (0 * 4)).take 4 ++ (l.drop (1 * 4)).take 4 := by
    have t1 : (l.drop 4).take 4 = l.drop 4 := List.take_of_length_le (by simp; omega)
    show l = (l.drop 0).take 4 ++ (l.drop 4).take 4
    rw [t1, List.drop_zero, List.take_append_drop]
  obtain ⟨a, la, ea, rfl⟩ := trod_num (by simp; omega) h0
  obtain ⟨b, lb, eb, rfl⟩ := trod_num (by simp; omega) h1
  rw [ea, eb] at e
  simp only [Prod.mk.injEq] at hx
  obtain ⟨rfl, rfl⟩ := hx
  exact ⟨a, b, la, lb, by rw [e]; rfl, rfl, by simp⟩
set_option maxRecDepth 100000 in
theorem shut_num2 {H : Type} {enc : TypeId × Value → H} {W : World} {base : Nat} {sp : Nat → Bool} {held : Bool} (a b : Nat) : DataW.Trod enc Try.prog W base sp held 37 (num2 a b) (numD2 a b) [] :=
  ⟨3, by
    unfold num2 nl2 numD2 numD
    simp [DataW.trod, Value.cells, Try.underlying37, Try.underlying24, Try.underlying22, cells_num2, cells_num, cells_u64, wf_wd, show List.range 4 = [0, 1, 2, 3] from rfl, show List.range 2 = [0, 1] from rfl]⟩
end Go.Proofs.Ytdmdkdodfngjiaa

/- Groups, and four long numbers, among a row's arguments: read, and read again. -/
namespace Go.Proofs.Ytdmdkdodfngjiaa
open Go.ChangeShapes Go.WideShapes Go.ChangeAt Go.RowKit
noncomputable def grpD {H : Type} (a b c d : Nat) : DataW H := .agg [numD a, numD b, numD c, numD d]
theorem list4' {α : Type} (l : List α) (h : l.length = 4) : ∃ a b c d, l = [a, b, c, d] := by
  match l, h with
  | [a, b, c, d], _ => exact ⟨a, b, c, d, rfl⟩
theorem trod_numG {H : Type} {enc : TypeId × Value → H} {W : World} {base fuel : Nat} {sp : Nat → Bool} {held : Bool} {cs : List Value} {y : DataW H × List MemPlace} (hl : cs.length = 4) (hf : DataW.trod enc Try.prog W base sp held fuel 24 cs = some y) :
    ∃ a, a < B ∧ cs = nl a ∧ y = (numD a, []) := by
  obtain ⟨c0, c1, c2, c3, rfl⟩ := list4' cs hl
  obtain ⟨y0, y1, y2, y3, m, hx, hy0, hy1, hy2, hy3⟩ := trod_array4 Try.underlying24 cells_u64 hf
  obtain ⟨x0, e0, rfl, w0⟩ := DataW.trod_int Try.underlying22 hy0
  obtain ⟨x1, e1, rfl, w1⟩ := DataW.trod_int Try.underlying22 hy1
  obtain ⟨x2, e2, rfl, w2⟩ := DataW.trod_int Try.underlying22 hy2
  obtain ⟨x3, e3, rfl, w3⟩ := DataW.trod_int Try.underlying22 hy3
  simp at e0 e1 e2 e3
  subst e0 e1 e2 e3
  subst hx
  obtain ⟨n0, rfl⟩ := Int.eq_ofNat_of_zero_le (wf_u64 w0).1
  obtain ⟨n1, rfl⟩ := Int.eq_ofNat_of_zero_le (wf_u64 w1).1
  obtain ⟨n2, rfl⟩ := Int.eq_ofNat_of_zero_le (wf_u64 w2).1
  obtain ⟨n3, rfl⟩ := Int.eq_ofNat_of_zero_le (wf_u64 w3).1
  have b0 := (wf_u64 w0).2
  have b1 := (wf_u64 w1).2
  have b2 := (wf_u64 w2).2
  have b3 := (wf_u64 w3).2
  have e := nl_ofW n0 n1 n2 n3 (by omega) (by omega) (by omega) (by omega)
  refine ⟨ofW n0 n1 n2 n3, ofW_lt _ _ _ _ (by omega) (by omega) (by omega) (by omega), e.symm, ?_⟩
  unfold nl at e
  simp only [List.cons.injEq, Value.int.injEq, true_and, and_true] at e
  obtain ⟨k0, k1, k2, k3⟩ := e
  unfold numD
  rw [k0, k1, k2, k3]
  simp
theorem split4 (l : List Value) (hl : l.length = 16) : l = (l.drop 0).take 4 ++ ((l.drop 4).take 4 ++ ((l.drop 8).take 4 ++ (l.drop 12).take 4)) := by
  have t3 : (l.drop 12).take 4 = l.drop 12 := List.take_of_length_le (by simp; omega)
  have t2 : l.drop 8 = (l.drop 8).take 4 ++ (l.drop 8).drop 4 := (List.take_append_drop 4 (l.drop 8)).symm
  have t1 : l.drop 4 = (l.drop 4).take 4 ++ (l.drop 4).drop 4 := (List.take_append_drop 4 (l.drop 4)).symm
  rw [List.drop_drop] at t1 t2
  rw [t3, ← t2, ← t1, List.drop_zero, List.take_append_drop]
theorem cells_grp : Try.prog.cellsOf 36 = 16 := by kernel_rfl
set_option maxRecDepth 100000 in
theorem open_grp {H : Type} {enc : TypeId × Value → H} {W : World} {base b0 : Nat} {r : Reach} {sp : Nat → Bool} {held : Bool} {v : Value} {d : DataW H} {ps : List MemPlace} (hval : Value.okWide Try.prog W r b0 36 v) (hd : DataW.Trod enc Try.prog W base sp held 36 v d ps) :
    ∃ a b c e, a < B ∧ b < B ∧ c < B ∧ e < B ∧ v = grp a b c e ∧ d = grpD a b c e ∧ ps = [] := by
  obtain ⟨cs, rfl, hsz, _⟩ : ∃ cs, v = .agg cs ∧ cs.size = Try.prog.cellsOf 36 ∧ Row.okWide Try.prog W r b0 36 cs := by
    simpa [Value.okWide, Try.underlying36] using hval
  rw [cells_grp] at hsz
  obtain ⟨l⟩ := cs
  have hl : l.length = 16 := by simpa using hsz
  obtain ⟨fuel, hf⟩ := hd
  change DataW.trod enc Try.prog W base sp held fuel 36 l = some (d, ps) at hf
  obtain ⟨xs, m, _, hx, _, hn, hi⟩ := DataW.trod_struct Try.underlying36 hf
  obtain ⟨x0, x1, x2, x3, rfl⟩ := list4' xs hn
  have h0 := hi 0 _ rfl
  have h1 := hi 1 _ rfl
  have h2 := hi 2 _ rfl
  have h3 := hi 3 _ rfl
  change DataW.trod enc Try.prog W base sp held m 24 ((l.drop 0).take (Try.prog.cellsOf 24)) = some x0 at h0
  change DataW.trod enc Try.prog W base sp held m 24 ((l.drop 4).take (Try.prog.cellsOf 24)) = some x1 at h1
  change DataW.trod enc Try.prog W base sp held m 24 ((l.drop 8).take (Try.prog.cellsOf 24)) = some x2 at h2
  change DataW.trod enc Try.prog W base sp held m 24 ((l.drop 12).take (Try.prog.cellsOf 24)) = some x3 at h3
  rw [cells_num] at h0 h1 h2 h3
  have e := split4 l hl
  obtain ⟨a, la, ea, rfl⟩ := trod_numG (by simp; omega) h0
  obtain ⟨b, lb, eb, rfl⟩ := trod_numG (by simp; omega) h1
  obtain ⟨c, lc, ec, rfl⟩ := trod_numG (by simp; omega) h2
  obtain ⟨f, lf, ef, rfl⟩ := trod_numG (by simp; omega) h3
  rw [show (l.drop 0).take 4 = nl a from ea, show (l.drop 4).take 4 = nl b from eb, show (l.drop 8).take 4 = nl c from ec, show (l.drop 12).take 4 = nl f from ef] at e
  simp only [Prod.mk.injEq] at hx
  obtain ⟨rfl, rfl⟩ := hx
  exact ⟨a, b, c, f, la, lb, lc, lf, by rw [e]; rfl, rfl, by simp⟩
set_option maxRecDepth 100000 in
theorem shut_grp {H : Type} {enc : TypeId × Value → H} {W : World} {base : Nat} {sp : Nat → Bool} {held : Bool} (a b c e : Nat) : DataW.Trod enc Try.prog W base sp held 36 (grp a b c e) (grpD a b c e) [] :=
  ⟨3, by
    unfold grp gl grpD numD
    simp [DataW.trod, Value.cells, Try.underlying36, Try.underlying24, Try.underlying22, cells_grp, cells_num, cells_u64, wf_wd, show List.range 4 = [0, 1, 2, 3] from rfl]⟩
end Go.Proofs.Ytdmdkdodfngjiaa
