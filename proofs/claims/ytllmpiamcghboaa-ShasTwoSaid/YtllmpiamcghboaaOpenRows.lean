/- A slice of slices of bytes that came in. -/
import Derived.Deep.Matrix
import Derived.SizedLaws
import Derived.Test.YtllmpiamcghboaaOpenBytes
set_option linter.unusedSimpArgs false
set_option linter.unusedVariables false
namespace Go.Proofs.Ytllmpiamcghboaa
open Go.RowKit Go.ChangeShapes

/-- Slices of bytes in a slice, in every world of the class. -/
def RowsOf (B0 : Nat) (w0 : World) (L : List (Nat × Obj)) (v : Value) (xss : List (List Nat)) : Prop := ∃ a cap, ∃ V : Nat → Value, v = .slice a xss.length cap ∧ xss.length ≤ cap ∧ cap ≤ maxLen ∧
  (∀ j, j < xss.length → SliceOf B0 w0 L (V j) (xss.getD j []) ∧ (xss.getD j []).length ≤ reachBytes) ∧
  (xss ≠ [] → ∃ bb off, a = some ⟨bb, off, none⟩ ∧ ∀ w, Rep B0 w0 L w → ∀ j, j < xss.length → w.cell? ⟨bb, off + j, none⟩ = some (V j))
theorem addr_plain {W : World} {a : Addr} {v : Value} (hc0 : W.cell? (a.add 0) = some v) : ∃ bb off, a = ⟨bb, off, none⟩ ∧ bb < W.heap.size := by
  obtain ⟨bb, off, sp⟩ := a
  have hblk : bb < W.heap.size := by
    unfold World.cell? at hc0
    split at hc0
    · rename_i hh
      have hb := (Array.getElem?_eq_some_iff.1 hh).1
      have : ((⟨bb, off, sp⟩ : Addr).add 0).block = bb := by unfold Addr.add; split <;> rfl
      rw [this] at hb
      exact hb
    · cases hc0
  have hsp : sp = none := by
    cases sp with
    | none => rfl
    | some s =>
      have hs : ((⟨bb, off, some s⟩ : Addr).add 0).spot.isSome = true := by unfold Addr.add; split <;> simp_all
      unfold World.cell? at hc0
      split at hc0
      · rw [if_pos hs] at hc0; cases hc0
      · cases hc0
  subst hsp
  exact ⟨bb, off, rfl, hblk⟩
theorem addr_none (bb off j : Nat) : ((⟨bb, off, none⟩ : Addr).add j) = ⟨bb, off + j, none⟩ := by
  unfold Addr.add; split <;> simp_all
/-- Bytes that lie in the caller's memory. -/
theorem slice_in {W : World} {a : Addr} {len cap : Nat} {zs : List Int} (hl : len ≤ cap) (hm : cap ≤ maxLen) (hlen : len ≤ zs.length) (hw : ∀ n ∈ zs, (Lit.int .u8 n).wf = true) (hc : ∀ i, i < len → W.cell? (a.add i) = some (.int .u8 (zs.getD i 0))) :
    SliceOf W.heap.size W [] (.slice (some a) len cap) ((zs.take len).map Int.toNat) := by
  have hnn : ∀ j, j < len → 0 ≤ zs.getD j 0 ∧ zs.getD j 0 < 256 := fun j hj => by
    have hj' : j < zs.length := by omega
    have hmem : zs.getD j 0 ∈ zs := by
      rw [List.getD_eq_getElem?_getD, List.getElem?_eq_getElem hj']
      exact List.getElem_mem hj'
    have := hw _ hmem
    simp [Lit.wf, IntKind.min, IntKind.max, IntKind.signed, IntKind.bits] at this
    rw [List.getD_eq_getElem?_getD]
    omega
  have hxl : ((zs.take len).map Int.toNat).length = len := by simp; omega
  have hxs : ∀ j, j < len → ((zs.take len).map Int.toNat).getD j 0 = (zs.getD j 0).toNat := fun j hj => by
    rw [List.getD_eq_getElem?_getD, List.getElem?_map, List.getElem?_take, if_pos hj, List.getD_eq_getElem?_getD, List.getElem?_eq_getElem (by omega)]
    rfl
  refine ⟨some a, cap, by rw [hxl], by omega, hm, fun j => ?_, fun hne => ?_⟩
  · by_cases hj : j < len
    · rw [hxs j hj]
      have := hnn j hj
      omega
    · rw [List.getD_eq_getElem?_getD, List.getElem?_eq_none (by omega)]
      exact (by decide : 0 < 256)
  · have hpos : 0 < len := by
      have : ((zs.take len).map Int.toNat).length ≠ 0 := fun h => hne (List.length_eq_zero_iff.1 h)
      omega
    obtain ⟨bb, off, rfl, hblk⟩ := addr_plain (hc 0 (by omega))
    refine ⟨bb, off, rfl, fun w hw' j hj => ?_⟩
    rw [hxl] at hj
    rw [hw'.below.cell (p := ⟨bb, off + j, none⟩) hblk, hxs j hj]
    have := hc j (by omega)
    rw [addr_none] at this
    rw [this]
    have := hnn j hj
    congr 2
    omega
theorem is_slices {W : World} {b0 : Nat} {r : Reach} {v : Value} (hval : Value.okWide Try.prog W r b0 42 v) : v.cells = #[v] := by
  cases v <;> first | rfl | (simp [Value.okWide, Cell.okWide, Cell.ok, Try.underlying42] at hval; done)
theorem weights_in {H : Type} {P : Program} {e : TypeId} : ∀ {l : List (DataW H)} {d : DataW H}, d ∈ l → ∀ n ∈ d.weights P e, n ∈ DataW.weightsAll P e l
  | d' :: r, d, hd, n, hn => by
    simp only [DataW.weightsAll, List.mem_append]
    rcases List.mem_cons.1 hd with rfl | h
    · exact Or.inl hn
    · exact Or.inr (weights_in h n hn)
theorem sized_row {H : Type} {P : Program} {ts : List TypeId} {ds : List (DataW H)} (h : (DataW.weightsEach P ts ds).all (· ≤ reachBytes) = true) {j : Nat} {t e q : TypeId} {elems spare e' sp' : List (DataW H)}
    (ht : ts[j]? = some t) (hd : ds[j]? = some (.slice elems spare)) (hu : P.underlying t = some (.slice e)) (hu2 : P.underlying e = some (.slice q)) (hx : DataW.slice e' sp' ∈ elems) : (e'.length + sp'.length) * P.bytesOf q ≤ reachBytes := by
  refine of_decide_eq_true (List.all_eq_true.1 h _ (DataW.weights_mem_each ht hd _ ?_))
  simp only [DataW.weights, hu, List.mem_cons, List.mem_append]
  exact Or.inr (Or.inl (weights_in hx _ (by simp [DataW.weights, hu2])))
theorem bytes_u8 : Try.prog.bytesOf 5 = 1 := by kernel_rfl
theorem cells_slice : Try.prog.cellsOf 24 = 1 := by kernel_rfl
theorem open_rows {H : Type} {enc : TypeId × Value → H} {W : World} {held : Bool} {b0 : Nat} {r : Reach} {v : Value} {d : DataW H} {ps : List MemPlace} {ts : List TypeId} {ds : List (DataW H)} {j : Nat}
    (hsz : (DataW.weightsEach Try.prog ts ds).all (· ≤ reachBytes) = true) (ht : ts[j]? = some 42) (hd : ds[j]? = some d) (hval : Value.okWide Try.prog W r b0 42 v) (h0 : DataW.Trod enc Try.prog W 0 (fun _ => true) held 42 v d ps) :
    ∃ xss, RowsOf W.heap.size W [] v xss := by
  obtain ⟨fuel, h⟩ := h0
  rw [is_slices hval] at h
  rcases Go.Deep.open_int_rows Try.underlying42 Try.underlying24 Try.underlying5 cells_slice cells_one8 h with ⟨h1, _⟩ | ⟨a, len, cap, A, L, C, Z, h1, _, hl, hm, hx, hr⟩
  · obtain rfl := (List.cons.inj (show [v] = _ from h1)).1
    exact ⟨[], none, 0, fun _ => .slice none 0 0, rfl, Nat.le_refl _, Nat.zero_le _, fun j hj => absurd hj (Nat.not_lt_zero j), fun h => absurd rfl h⟩
  · obtain rfl := (List.cons.inj (show [v] = _ from h1)).1
    have hxd : d = _ := (Prod.mk.inj hx).1
    rw [hxd] at hd
    have hlen : ((List.range len).map fun r => ((Z r).take (L r)).map Int.toNat).length = len := by simp
    have hat : ∀ r, r < len → ((List.range len).map fun r => ((Z r).take (L r)).map Int.toNat).getD r [] = ((Z r).take (L r)).map Int.toNat := fun r hr => by
      rw [List.getD_eq_getElem?_getD]
      simp [hr]
    refine ⟨(List.range len).map fun r => ((Z r).take (L r)).map Int.toNat, some a, cap, fun r => .slice (A r) (L r) (C r), by rw [hlen], by omega, hm, fun r hrl => ?_, fun hne => ?_⟩
    · rw [hlen] at hrl
      rw [hat r hrl]
      obtain ⟨c1, c2, c3, c4, c5, c6, c7⟩ := hr r (by omega)
      refine ⟨?_, ?_⟩
      · show SliceOf W.heap.size W [] (.slice (A r) (L r) (C r)) (((Z r).take (L r)).map Int.toNat)
        cases hA : A r with
        | none =>
          have hC := c6 hA
          have hL : L r = 0 := by omega
          have hZ : (Z r).take (L r) = [] := by rw [hL]; rfl
          rw [hZ, hL, hC]
          exact sliceOf_nil
        | some a' => exact slice_in c2 c3 (by omega) c5 (fun i hi => (c7 a' hA).2 i (by omega))
      · cases hA : A r with
        | none =>
          have hC := c6 hA
          simp
          omega
        | some a' =>
          have hmem : DataW.slice (lits .u8 ((Z r).take (L r))) (lits .u8 ((Z r).drop (L r))) ∈ ((List.range len).map fun r => Go.Deep.intRow (H := H) .u8 (A r) (L r) (Z r)) := by
            refine List.mem_map.2 ⟨r, List.mem_range.2 hrl, ?_⟩
            unfold Go.Deep.intRow
            rw [hA]
          have := sized_row hsz ht hd Try.underlying42 Try.underlying24 hmem
          rw [bytes_u8] at this
          simp [lits] at this ⊢
          omega
    · rw [hlen]
      have hpos : 0 < len := by
        rcases Nat.eq_zero_or_pos len with h | h
        · subst h; exact absurd rfl hne
        · exact h
      obtain ⟨bb, off, rfl, hblk⟩ := addr_plain (hr 0 (by omega)).1
      refine ⟨bb, off, rfl, fun w hw' j hj => ?_⟩
      rw [hw'.below.cell (p := ⟨bb, off + j, none⟩) hblk]
      have := (hr j (by omega)).1
      rw [addr_none] at this
      exact this
theorem RowsOf.mono {B0 : Nat} {w0 : World} {L L' : List (Nat × Obj)} {v : Value} {xss : List (List Nat)} (h : RowsOf B0 w0 L v xss) (hL : ∀ w, Rep B0 w0 L' w → Rep B0 w0 L w) : RowsOf B0 w0 L' v xss := by
  obtain ⟨a, cap, V, h1, h2, h3, h4, h5⟩ := h
  exact ⟨a, cap, V, h1, h2, h3, fun j hj => ⟨(h4 j hj).1.mono hL, (h4 j hj).2⟩, fun hx => by
    obtain ⟨bb, off, h6, h7⟩ := h5 hx
    exact ⟨bb, off, h6, fun w hw => h7 w (hL w hw)⟩⟩
theorem RowsOf.any {B0 : Nat} {w0 : World} {L : List (Nat × Obj)} {v : Value} {xss : List (List Nat)} (h : RowsOf B0 w0 [] v xss) : RowsOf B0 w0 L v xss := h.mono fun w hw => hw.weaken (List.nil_sublist _)
end Go.Proofs.Ytllmpiamcghboaa
