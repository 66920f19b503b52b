import Derived.SizedLaws
import Derived.Test.YtaaahfjpnggkbaaGreatDoorZA
import Derived.Test.YtaaahfjpnggkbaaGreatDoorZZ
set_option linter.unusedSimpArgs false
set_option linter.unusedVariables false
set_option maxRecDepth 100000
set_option maxHeartbeats 20000000
namespace Go.Proofs.YtaaahfjpnggkbaaGreatDoor
open Go.RowKit
section
open Go.RowKit Go.ChangeShapes
end
section
open Go.RowKit Go.ChangeShapes
theorem list4G {α : Type} (l : List α) (h : l.length = 4) : ∃ a b c d, l = [a, b, c, d] := by
 match l, h with
 | [a, b, c, d], _ => exact ⟨a, b, c, d, rfl⟩
theorem cells_given12 : Tryz.prog.cellsOf 62 = 4 := by kernel_rfl
theorem cells_intG : Tryz.prog.cellsOf 3 = 1 := by kernel_rfl
theorem open_given12 {H : Type} {enc : TypeId × Value → H} {W : World} {base b0 : Nat} {rc : Reach} {sp : Nat → Bool} {held : Bool} {v : Value} {d : DataW H} {ps : List MemPlace} (hval : Value.okWide Tryz.prog W rc b0 62 v) (hd : DataW.Trod enc Tryz.prog W base sp held 62 v d ps) :
  ∃ a n ca f z b m cb g y, v = .agg #[.slice a n ca, .int .i64 z, .slice b m cb, .int .i64 y] ∧ NAt W.heap.size W [] a n ca f ∧ NAt W.heap.size W [] b m cb g := by
 obtain ⟨cs, rfl, hsz, _⟩ : ∃ cs, v = .agg cs ∧ cs.size = Tryz.prog.cellsOf 62 ∧ Row.okWide Tryz.prog W rc b0 62 cs := by
  simpa [Value.okWide, Tryz.underlying62] using hval
 rw [cells_given12] at hsz
 obtain ⟨l⟩ := cs
 have hsz : l.length = 4 := hsz
 obtain ⟨fuel, hf⟩ := hd
 have hf : DataW.trod enc Tryz.prog W base sp held fuel 62 l = some (d, ps) := hf
 obtain ⟨xs, m0, _, hx, _, hn, hi⟩ := DataW.trod_struct Tryz.underlying62 hf
 obtain ⟨x0, x1, x2, x3, rfl⟩ := list4G xs hn
 have h0 : DataW.trod enc Tryz.prog W base sp held m0 27 ((l.drop 0).take (Tryz.prog.cellsOf 27)) = some x0 := hi 0 _ rfl
 have h1 : DataW.trod enc Tryz.prog W base sp held m0 3 ((l.drop 1).take (Tryz.prog.cellsOf 3)) = some x1 := hi 1 _ rfl
 have h2 : DataW.trod enc Tryz.prog W base sp held m0 27 ((l.drop 2).take (Tryz.prog.cellsOf 27)) = some x2 := hi 2 _ rfl
 have h3 : DataW.trod enc Tryz.prog W base sp held m0 3 ((l.drop 3).take (Tryz.prog.cellsOf 3)) = some x3 := hi 3 _ rfl
 rw [cells_nums] at h0 h2
 rw [cells_intG] at h1 h3
 match l, hsz with
 | [u0, u1, u2, u3], _ =>
  obtain ⟨a, n, ca, f, e0, s0⟩ := trod_nums h0
  obtain ⟨b, m, cb, g, e2, s2⟩ := trod_nums h2
  obtain ⟨z, e1, _⟩ := DataW.trod_int Tryz.underlying3 h1
  obtain ⟨y, e3, _⟩ := DataW.trod_int Tryz.underlying3 h3
  obtain rfl := (List.cons.inj (show [u0] = _ from e0)).1
  obtain rfl := (List.cons.inj (show [u1] = _ from e1)).1
  obtain rfl := (List.cons.inj (show [u2] = _ from e2)).1
  obtain rfl := (List.cons.inj (show [u3] = _ from e3)).1
  exact ⟨a, n, ca, f, z, b, m, cb, g, y, rfl, s0, s2⟩
end
end Go.Proofs.YtaaahfjpnggkbaaGreatDoor
