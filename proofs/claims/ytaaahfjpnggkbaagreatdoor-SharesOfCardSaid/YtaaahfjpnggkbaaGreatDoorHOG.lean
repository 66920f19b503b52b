import Derived.SizedLaws
import Derived.Test.YtaaahfjpnggkbaaGreatDoorHA
import Derived.Test.YtaaahfjpnggkbaaGreatDoorHZ
import Derived.Test.YtaaahfjpnggkbaaGreatDoorHXI
set_option linter.unusedSimpArgs false
set_option linter.unusedVariables false
set_option maxRecDepth 100000
set_option maxHeartbeats 20000000
namespace Go.Proofs.YtaaahfjpnggkbaaGreatDoor
open Go.RowKit
section
open Go.RowKit Go.ChangeShapes
end
section
open Go.RowKit Go.ChangeShapes
theorem list4G {α : Type} (l : List α) (h : l.length = 4) : ∃ a b c d, l = [a, b, c, d] := by
 match l, h with
 | [a, b, c, d], _ => exact ⟨a, b, c, d, rfl⟩
end
section
open Go.RowKit Go.ChangeShapes
theorem cells_given11 : Tryz.prog.cellsOf 69 = 4 := by kernel_rfl
theorem cells_intI : Tryz.prog.cellsOf 3 = 1 := by kernel_rfl
theorem cells_ints : Tryz.prog.cellsOf 67 = 1 := by kernel_rfl
theorem trod_ints {H : Type} {enc : TypeId × Value → H} {W : World} {base fuel : Nat} {sp : Nat → Bool} {held : Bool} {l : List Value} {y : DataW H × List MemPlace} (hf : DataW.trod enc Tryz.prog W base sp held fuel 67 l = some y) :
  ∃ a n cap f, l = [.slice a n cap] ∧ IAt W.heap.size W [] a n cap f := by
 rcases DataW.trod_slice Tryz.underlying67 hf with ⟨h1, _⟩ | ⟨a, len, cap, elems, rest, n, _, h1, _, _, hlc, hcm, hlen, hel, _, _⟩
 ·exact ⟨none, 0, 0, fun _ => 0, h1, ⟨Nat.le_refl _, Nat.zero_le _, fun h => absurd rfl h⟩⟩
 ·rw [cells_intI] at hel
  have each : ∀ j, j < len → ∃ z : Int, W.cell? (a.add (j * 1)) = some (.int .i64 z) := fun j hj => by
   have h2 := hel j hj
   rw [List.getElem?_eq_getElem (by omega), Option.bind_eq_some_iff] at h2
   obtain ⟨cs, hc, ht⟩ := h2
   obtain ⟨_, c2, c3⟩ := World.cells?_some hc
   obtain ⟨z, ez, _⟩ := DataW.trod_int Tryz.underlying3 ht
   have h0 := c3 0 (by decide)
   have ea : (a.add (j * 1)).add 0 = a.add (j * 1) := by unfold Addr.add; split <;> simp_all
   rw [ea, ez] at h0
   exact ⟨z, h0⟩
  classical
  obtain ⟨f, hf⟩ : ∃ f : Nat → Int, ∀ j, j < len → W.cell? (a.add (j * 1)) = some (.int .i64 (f j)) :=
   ⟨fun j => if hj : j < len then (each j hj).choose else 0, fun j hj => by simp only [dif_pos hj]; exact (each j hj).choose_spec⟩
  refine ⟨some a, len, cap, f, h1, ⟨hlc, hcm, fun hne => ?_⟩⟩
  have hpos : 0 < len := by omega
  have hc0 := hf 0 hpos
  rw [Nat.zero_mul] at hc0
  obtain ⟨bb, off, rfl, hblk⟩ := xJz hc0
  refine ⟨bb, off, rfl, fun w hw j hj => ?_⟩
  have := hf j hj
  rw [xIz, Nat.mul_one] at this
  rw [hw.below.cell (p := ⟨bb, off + j, none⟩) hblk, this]
theorem open_given11 {H : Type} {enc : TypeId × Value → H} {W : World} {base b0 : Nat} {rc : Reach} {sp : Nat → Bool} {held : Bool} {v : Value} {d : DataW H} {ps : List MemPlace} (hval : Value.okWide Tryz.prog W rc b0 69 v) (hd : DataW.Trod enc Tryz.prog W base sp held 69 v d ps) :
  ∃ a n ca f z b m cb A c k cc h, v = .agg #[.slice a n ca, .int .i64 z, .slice b m cb, .slice c k cc] ∧ NAt W.heap.size W [] a n ca f ∧ IAt W.heap.size W [] b m cb A ∧ NAt W.heap.size W [] c k cc h := by
 obtain ⟨cs, rfl, hsz, _⟩ : ∃ cs, v = .agg cs ∧ cs.size = Tryz.prog.cellsOf 69 ∧ Row.okWide Tryz.prog W rc b0 69 cs := by
  simpa [Value.okWide, Tryz.underlying69] using hval
 rw [cells_given11] at hsz
 obtain ⟨l⟩ := cs
 have hsz : l.length = 4 := hsz
 obtain ⟨fuel, hf⟩ := hd
 have hf : DataW.trod enc Tryz.prog W base sp held fuel 69 l = some (d, ps) := hf
 obtain ⟨xs, m0, _, hx, _, hn, hi⟩ := DataW.trod_struct Tryz.underlying69 hf
 obtain ⟨x0, x1, x2, x3, rfl⟩ := list4G xs hn
 have h0 : DataW.trod enc Tryz.prog W base sp held m0 27 ((l.drop 0).take (Tryz.prog.cellsOf 27)) = some x0 := hi 0 _ rfl
 have h1 : DataW.trod enc Tryz.prog W base sp held m0 3 ((l.drop 1).take (Tryz.prog.cellsOf 3)) = some x1 := hi 1 _ rfl
 have h2 : DataW.trod enc Tryz.prog W base sp held m0 67 ((l.drop 2).take (Tryz.prog.cellsOf 67)) = some x2 := hi 2 _ rfl
 have h3 : DataW.trod enc Tryz.prog W base sp held m0 27 ((l.drop 3).take (Tryz.prog.cellsOf 27)) = some x3 := hi 3 _ rfl
 rw [cells_nums] at h0 h3
 rw [cells_intI] at h1
 rw [cells_ints] at h2
 match l, hsz with
 | [u0, u1, u2, u3], _ =>
  obtain ⟨a, n, ca, f, e0, s0⟩ := trod_nums h0
  obtain ⟨b, m, cb, A, e2, s2⟩ := trod_ints h2
  obtain ⟨c, k, cc, h, e3, s3⟩ := trod_nums h3
  obtain ⟨z, e1, _⟩ := DataW.trod_int Tryz.underlying3 h1
  obtain rfl := (List.cons.inj (show [u0] = _ from e0)).1
  obtain rfl := (List.cons.inj (show [u1] = _ from e1)).1
  obtain rfl := (List.cons.inj (show [u2] = _ from e2)).1
  obtain rfl := (List.cons.inj (show [u3] = _ from e3)).1
  exact ⟨a, n, ca, f, z, b, m, cb, A, c, k, cc, h, rfl, s0, s2, s3⟩
end
end Go.Proofs.YtaaahfjpnggkbaaGreatDoor
