/- A slice of bytes that starts from nothing and grows by what the caller hands in. -/
import Derived.Test.YtllmpiamcghboaaShaSize
set_option linter.unusedSimpArgs false
set_option linter.unusedVariables false
namespace Go.Proofs.Ytllmpiamcghboaa
open Go.RowKit
attribute [local irreducible] Calls

/-- Such a slice: its place, its room, its block. -/
structure Gro where
  a : Option Addr
  cap : Nat
  bl : List (Nat × Obj)
def GroOk (x : Gro) (m : List Nat) : Prop := (x = ⟨none, 0, []⟩ ∧ m = []) ∨
  ∃ g, ∃ cur : List Value, x.a = some ⟨g, 0, none⟩ ∧ x.bl = [(g, .cells cur.toArray 5)] ∧ m.length ≤ x.cap ∧ x.cap ≤ maxLen ∧ cur.length = x.cap ∧ cur.take m.length = u8s m.length (fun j => m.getD j 0)
section
variable {B0 : Nat} {w0 w : World} {L : List (Nat × Obj)}
theorem Rep.perm {L' : List (Nat × Obj)} (h : Rep B0 w0 L w) (hp : L.Perm L') : Rep B0 w0 L' w :=
  ⟨h.below, h.le, fun p hp' => h.own p (hp.mem_iff.2 hp'), (hp.map _).nodup_iff.1 h.uniq⟩
theorem gro_slice {x : Gro} {m : List Nat} (h : GroOk x m) (hb : ∀ j, m.getD j 0 < 256) : SliceOf B0 w0 (L ++ x.bl) (.slice x.a m.length x.cap) m := by
  rcases h with ⟨rfl, rfl⟩ | ⟨g, cur, ha, hbl, h1, h2, h3, h4⟩
  · exact sliceOf_nil
  · refine ⟨_, _, rfl, h1, h2, hb, fun _ => ⟨g, 0, ha, fun w hw j hj => ?_⟩⟩
    rw [Nat.zero_add]
    refine hw.cell (List.mem_append_right _ (by rw [hbl]; exact .head _)) ?_
    have := u8s_at (w := fun j => m.getD j 0) hj
    rw [← h4, List.getElem?_take, if_pos hj] at this
    exact this
theorem getD_app_lt {m xs : List Nat} (h1 : ∀ j, m.getD j 0 < 256) (h2 : ∀ j, xs.getD j 0 < 256) (j : Nat) : (m ++ xs).getD j 0 < 256 := by
  by_cases h : j < m.length
  · rw [getD_app_left _ _ h]; exact h1 j
  · obtain ⟨k, rfl⟩ : ∃ k, j = m.length + k := ⟨j - m.length, by omega⟩
    rw [getD_app_right]; exact h2 k
theorem u8s_app (m xs : List Nat) : u8s (m ++ xs).length (fun j => (m ++ xs).getD j 0) = u8s m.length (fun j => m.getD j 0) ++ u8s xs.length (fun j => xs.getD j 0) := by
  rw [u8s_def, u8s_def, u8s_def, List.length_append, List.range_add, List.map_append, List.map_map]
  congr 1
  · refine List.map_congr_left fun j hj => ?_
    show Value.int .u8 (((m ++ xs).getD j 0 : Nat) : Int) = _
    rw [getD_app_left _ _ (List.mem_range.1 hj)]
  · refine List.map_congr_left fun j hj => ?_
    show Value.int .u8 (((m ++ xs).getD (m.length + j) 0 : Nat) : Int) = _
    rw [getD_app_right]
theorem append_zero (g n cap : Nat) (hn : n ≤ cap) (hc : cap ≤ maxLen) (a : Option Addr) (c : Nat) (ty : TypeId) (w : World) : (Builtin.append_ #[24, 24] ty #[.slice (some ⟨g, 0, none⟩) n cap, .slice a 0 c]).run Try.prog w = .ok (.slice (some ⟨g, 0, none⟩) n cap) w := by
  have := Try.underlying24
  obtain ⟨i0, hi, hz0, hz1, hz2⟩ := info_parts info_u8
  cases a <;> simp [Builtin.append_, run_underlying Try.underlying24, Builtin.lenOf, Builtin.firstCells, sizeOf, typeInfo, hi, loadCells, loadCellsFrom, hn, storeCells]
theorem wpList_appendZero {ops : Array Oper} {rest : List Oper} {o : Oper} {a : Act} {Q : Exit → Act → World → Prop} (hgd : o.guard = none) {s x : Operand} (ho : o.op = .call { callee := .builtin .append, args := #[s, x], argTypes := #[24, 24] })
    {g n cap : Nat} (hn : n ≤ cap) (hc : cap ≤ maxLen) (hs : a.eval s = .slice (some ⟨g, 0, none⟩) n cap) {ad : Option Addr} {c : Nat} (hx : a.eval x = .slice ad 0 c) (h : wpList Try.prog ops Q rest (a.put o.dst (.slice (some ⟨g, 0, none⟩) n cap)) w) : wpList Try.prog ops Q (o :: rest) a w :=
  wpList_plain hgd fun _ hK => by
    unfold Oper.wp execOp
    simp only [ho, resolve, invoke, builtin, Sem.run_bind, Sem.run_pure, Result.andThen_ok, List.map_toArray, List.map_cons, List.map_nil, hs, hx, append_zero g n cap hn hc]
    exact hK _ _ h
/-- append of what the caller hands in. -/
theorem wpList_appendGro {ops : Array Oper} {rest : List Oper} {o : Oper} {a : Act} {Q : Exit → Act → World → Prop} {x : Gro} {m xs : List Nat} {v : Value} (hR : Rep B0 w0 (L ++ x.bl) w) (hgd : o.guard = none) {s y : Operand} (ho : o.op = .call { callee := .builtin .append, args := #[s, y], argTypes := #[24, 24] })
    (hs : a.eval s = .slice x.a m.length x.cap) (hy : a.eval y = v) (hg : GroOk x m) (hv : SliceOf B0 w0 [] v xs) (hbig : m.length + xs.length ≤ 100000000)
    (h : ∀ (x' : Gro) w', GroOk x' (m ++ xs) → Rep B0 w0 (L ++ x'.bl) w' → wpList Try.prog ops Q rest (a.put o.dst (.slice x'.a (m ++ xs).length x'.cap)) w') : wpList Try.prog ops Q (o :: rest) a w := by
  obtain ⟨i0, hi, hz0, hz1, hz2⟩ := info_parts info_u8
  obtain ⟨ay, cy, rfl, c1, c2, c3, c4⟩ := hv
  by_cases hxs : xs = []
  · subst hxs
    have hm : m ++ [] = m := List.append_nil m
    rw [hm] at h
    rcases hg with ⟨rfl, rfl⟩ | ⟨g, cur, ha, hbl, h1, h2, h3, h4⟩
    · exact wpList_appendNone hgd ho hs hy (h ⟨none, 0, []⟩ w (.inl ⟨rfl, rfl⟩) hR)
    · rw [ha] at hs
      refine wpList_appendZero hgd ho h1 h2 hs hy ?_
      have := h x w (.inr ⟨g, cur, ha, hbl, h1, h2, h3, h4⟩) hR
      rw [ha] at this
      exact this
  · obtain ⟨bb, off, rfl, c5⟩ := c4 hxs
    have hpos : 0 < xs.length := by
      have : xs.length ≠ 0 := fun h => hxs (List.length_eq_zero_iff.1 h)
      omega
    have hsrc : ∀ w, Rep B0 w0 [] w → ∀ j u, (u8s xs.length fun j => xs.getD j 0)[j]? = some u → w.cell? ((⟨bb, off, none⟩ : Addr).add j) = some u := fun w hw j u hj => by
      have hjn : j < xs.length := by
        have := (List.getElem?_eq_some_iff.1 hj).1
        simpa using this
      rw [u8s_at hjn] at hj
      rw [← Option.some.inj hj, addr_none]
      exact c5 w hw j hjn
    have hone := u8s_mem xs.length (fun j => xs.getD j 0)
    have hln := u8s_length xs.length (fun j => xs.getD j 0)
    rcases hg with ⟨rfl, rfl⟩ | ⟨g, cur, ha, hbl, h1, h2, h3, h4⟩
    · refine wpList_appendNew hR hgd ho Try.underlying24 hi hz0 hz1 hz2 rfl hs hy hln hpos (hsrc w hR.bare) hone (by unfold maxLen; simp at hbig; omega) (by simp at hbig; omega) ?_
      intro g' cap' cur' w' hR' d1 d2 d3 d4
      refine h ⟨some ⟨g', 0, none⟩, cap', [(g', .cells cur'.toArray 5)]⟩ w' (.inr ⟨g', cur', rfl, rfl, by simpa using d1, d2, d3, ?_⟩) (hR'.perm ?_)
      · simpa using d4
      · show ((g', Obj.cells cur'.toArray 5) :: (L ++ [])).Perm (L ++ [(g', Obj.cells cur'.toArray 5)])
        rw [List.append_nil]
        exact (List.perm_append_comm (l₁ := [(g', Obj.cells cur'.toArray 5)]) (l₂ := L))
    · rw [ha] at hs
      rw [hbl] at hR
      have hR2 : Rep B0 w0 ((g, .cells cur.toArray 5) :: L) w := hR.perm (List.perm_append_comm (l₁ := L) (l₂ := [(g, Obj.cells cur.toArray 5)]))
      refine wpList_appendRep hR2 hgd ho Try.underlying24 hi hz0 hz1 hz2 rfl hs h1 h2 h3 hy hln (hsrc w hR.bare) hone (by unfold maxLen; omega) (by omega) ?_
      intro g' cap' cur' w' hR' d1 d2 d3 d4
      have hl : (m ++ xs).length = m.length + xs.length := List.length_append
      have := h ⟨some ⟨g', 0, none⟩, cap', [(g', .cells cur'.toArray 5)]⟩ w' (.inr ⟨g', cur', rfl, rfl, by rw [hl]; exact d1, d2, d3, ?_⟩) (hR'.perm ?_)
      · rw [hl] at this
        exact this
      · rw [u8s_app, ← h4, hl]
        exact d4
      · exact (List.perm_append_comm (l₁ := [(g', Obj.cells cur'.toArray 5)]) (l₂ := L))
end
end Go.Proofs.Ytllmpiamcghboaa
