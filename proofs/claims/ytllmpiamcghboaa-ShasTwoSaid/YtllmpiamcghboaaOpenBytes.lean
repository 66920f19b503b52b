/- A slice of bytes that came in. -/
import Derived.ChangeSlices
import Derived.Test.YtllmpiamcghboaaShaAlive
import Derived.ProofKit
import Derived.OpenShut
set_option linter.unusedSimpArgs false
set_option linter.unusedVariables false
namespace Go.Proofs.Ytllmpiamcghboaa
open Go.RowKit Go.ChangeShapes

theorem cells_one8 : Try.prog.cellsOf 5 = 1 := by kernel_rfl
theorem is_slice {W : World} {b0 : Nat} {r : Reach} {v : Value} (hval : Value.okWide Try.prog W r b0 24 v) : v.cells = #[v] := by
  cases v <;> first | rfl | (simp [Value.okWide, Cell.okWide, Cell.ok, Try.underlying24] at hval; done)
theorem open_bytes {H : Type} {enc : TypeId × Value → H} {W : World} {base : Nat} {spare : Nat → Bool} {held : Bool} {b0 : Nat} {r : Reach} {v : Value} {d : DataW H} {ps : List MemPlace} (hval : Value.okWide Try.prog W r b0 24 v) (h0 : DataW.Trod enc Try.prog W base spare held 24 v d ps) :
    ∃ xs, SliceOf W.heap.size W [] v xs := by
  obtain ⟨fuel, h⟩ := h0
  rw [is_slice hval] at h
  rcases open_ints Try.underlying24 Try.underlying5 cells_one8 h with ⟨h1, _⟩ | ⟨a, len, cap, zs, h1, _, hl, hm, hz, hx, hc, hw⟩
  · obtain rfl := (List.cons.inj (show [v] = _ from h1)).1
    exact ⟨[], sliceOf_nil⟩
  · obtain rfl := (List.cons.inj (show [v] = _ from h1)).1
    have hlen : len ≤ zs.length := by rw [hz]; split <;> omega
    have hnn : ∀ j, j < len → 0 ≤ zs.getD j 0 ∧ zs.getD j 0 < 256 := fun j hj => by
      have hj' : j < zs.length := by omega
      have hmem : zs.getD j 0 ∈ zs := by
        rw [List.getD_eq_getElem?_getD, List.getElem?_eq_getElem hj']
        exact List.getElem_mem hj'
      have := hw _ hmem
      simp [Lit.wf, IntKind.min, IntKind.max, IntKind.signed, IntKind.bits] at this
      rw [List.getD_eq_getElem?_getD]
      omega
    have hxl : ((zs.take len).map Int.toNat).length = len := by simp; omega
    have hxs : ∀ j, j < len → ((zs.take len).map Int.toNat).getD j 0 = (zs.getD j 0).toNat := fun j hj => by
      rw [List.getD_eq_getElem?_getD, List.getElem?_map, List.getElem?_take, if_pos hj, List.getD_eq_getElem?_getD, List.getElem?_eq_getElem (by omega)]
      rfl
    refine ⟨(zs.take len).map Int.toNat, some a, cap, by rw [hxl], by omega, hm, fun j => ?_, fun hne => ?_⟩
    · by_cases hj : j < len
      · rw [hxs j hj]
        have := hnn j hj
        omega
      · rw [List.getD_eq_getElem?_getD, List.getElem?_eq_none (by omega)]
        exact (by decide : 0 < 256)
    · have hpos : 0 < len := by
        have : ((zs.take len).map Int.toNat).length ≠ 0 := fun h => hne (List.length_eq_zero_iff.1 h)
        omega
      have hc0 := hc 0 (by omega)
      obtain ⟨bb, off, sp⟩ := a
      have hblk : bb < W.heap.size := by
        unfold World.cell? at hc0
        split at hc0
        · rename_i hh
          have hb := (Array.getElem?_eq_some_iff.1 hh).1
          have : ((⟨bb, off, sp⟩ : Addr).add 0).block = bb := by unfold Addr.add; split <;> rfl
          rw [this] at hb
          exact hb
        · cases hc0
      have hsp : sp = none := by
        cases sp with
        | none => rfl
        | some s =>
          have hs : ((⟨bb, off, some s⟩ : Addr).add 0).spot.isSome = true := by unfold Addr.add; split <;> simp_all
          unfold World.cell? at hc0
          split at hc0
          · rw [if_pos hs] at hc0; cases hc0
          · cases hc0
      subst hsp
      refine ⟨bb, off, rfl, fun w hw' j hj => ?_⟩
      rw [hxl] at hj
      rw [hw'.below.cell (p := ⟨bb, off + j, none⟩) hblk, hxs j hj]
      have e : ((⟨bb, off, none⟩ : Addr).add j) = ⟨bb, off + j, none⟩ := by
        unfold Addr.add; split <;> simp_all
      have := hc j (by omega)
      rw [e] at this
      rw [this]
      have := hnn j hj
      congr 2
      omega
end Go.Proofs.Ytllmpiamcghboaa
