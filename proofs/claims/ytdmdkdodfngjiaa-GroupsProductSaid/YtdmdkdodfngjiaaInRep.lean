/- Steps on a call's own blocks inside a fence (the body of a range over a function): 'RK' is 'Rep', and what is no cells lies as it lay. No condition; nothing of the program is named here. -/
import Derived.RangeFuncOwn
import Derived.RangeFuncCalls
import Derived.TacticsIn
import Derived.Test.YtdmdkdodfngjiaaCut
set_option linter.unusedSimpArgs false
set_option linter.unusedVariables false
namespace Go.Proofs.Ytdmdkdodfngjiaa
open Go.RowKit
theorem KeepsOthers.setCellsK (b : Nat) : ∀ (vs : List Value) (o : Nat) (w : World), KeepsOthers w (w.setCells b o vs)
  | [], o, w => KeepsOthers.refl w
  | v :: vs, o, w => by
    rw [World.setCells]
    exact (KeepsOthers.setCell w _ v).trans (KeepsOthers.setCellsK b vs (o + 1) _)
theorem KeepsOthers.belowK {W W' : World} (h : Below W.heap.size W W') : KeepsOthers W W' :=
  ⟨h.size, fun k o hk _ => by rw [h.block k (Array.getElem?_eq_some_iff.1 hk).1]; exact hk⟩
structure RK (W0 : World) (B0 : Nat) (w0 : World) (L : List (Nat × Obj)) (w : World) : Prop where
  rep : Rep B0 w0 L w
  keeps : KeepsOthers W0 w
section
variable {W0 w w0 : World} {B0 : Nat} {L L' : List (Nat × Obj)}
theorem RK.call {w' : World} (h : RK W0 B0 w0 L w) (hb : Below w.heap.size w w') : RK W0 B0 w0 L w' := ⟨h.rep.call hb, h.keeps.trans (KeepsOthers.belowK hb)⟩
theorem RK.weaken (h : RK W0 B0 w0 L w) (hs : L'.Sublist L) : RK W0 B0 w0 L' w := ⟨h.rep.weaken hs, h.keeps⟩
theorem RK.drew (h : RK W0 B0 w0 L w) : RK W0 B0 w0 L w.drew := ⟨h.rep.drew, h.keeps.trans (KeepsOthers.drew _)⟩
theorem RK.storeRow {P : Program} (h : RK W0 B0 w0 L w) {ty : TypeId} {n : Nat} [hT : RowT P ty n] {b off : Nat} {l l' vs : List Value} {t : TypeId} (h1 : vs.all (·.oneCell') = true) (hvn : vs.length = n)
    (hs : SetAt L b (.cells l.toArray t) (.cells l'.toArray t) L') (hn : off + n ≤ l.length) (hl : l.take off ++ vs ++ l.drop (off + n) = l') :
    ∃ w', (storeVar ty ⟨b, off, none⟩ (.agg vs.toArray)).run P w = .ok () w' ∧ RK W0 B0 w0 L' w' := by
  obtain ⟨d, hu, hd, hi⟩ := hT.is
  subst hvn
  obtain ⟨a1, a2⟩ := h.rep.storeCells hs hn hl
  exact ⟨_, run_storeVar_mid w b off ty vs.toArray (by simpa using a2) (by simp [hi]) (by simpa using h1), by simpa using a1, h.keeps.trans (by simpa using KeepsOthers.setCellsK b vs off w)⟩
theorem RK.storeCell {P : Program} (h : RK W0 B0 w0 L w) {ty : TypeId} [hT : CellT P ty] {b off : Nat} {l l' : List Value} {v : Value} {t : TypeId} (h1 : v.oneCell' = true)
    (hs : SetAt L b (.cells l.toArray t) (.cells l'.toArray t) L') (hn : off < l.length) (hl : l.set off v = l') :
    ∃ w', (storeVar ty ⟨b, off, none⟩ v).run P w = .ok () w' ∧ RK W0 B0 w0 L' w' := by
  obtain ⟨d, hu, hd, hi⟩ := hT.is
  obtain ⟨a1, a2⟩ := h.rep.storeCells (vs := [v]) (off := off) hs (by simp; omega) (by
    rw [← hl]
    simp only [List.length_cons, List.length_nil, List.append_assoc, List.cons_append, List.nil_append, Nat.zero_add]
    rw [List.set_eq_take_append_cons_drop, if_pos hn])
  have hc : v.cells = #[v] := by cases v <;> first | rfl | cases h1
  have := run_storeCells_cells (P := P) b off [v] 0 w (fun j hj => by simpa using (a2 j hj).1) (fun j hj => by simpa using (a2 j hj).2) (by simpa using h1)
  cases hq : P.info? ty with
  | none => simp [hq] at hi
  | some i =>
    have hs1 : i.size = 1 := by simpa [hq] using hi
    refine ⟨w.setCells b off [v], ?_, a1, h.keeps.trans (KeepsOthers.setCellsK b [v] off w)⟩
    simp only [Nat.add_zero] at this
    simp [storeVar, sizeOf, typeInfo, hq, hc, hs1, this]
end
section lists
variable {F : Fence} {n0 : Nat} {P : Program} {ops : Array Oper} {rest : List Oper} {o : Oper} {a : Act} {w w0 W0 : World} {Q : Exit → Act → World → Prop} {B0 : Nat} {L L' : List (Nat × Obj)}
theorem in_ok (hg : o.guard = none) (hnd : ∀ c, o.op ≠ .defer c) (hab : o.about P w a.eval = none) {v : Value} {w' : World} (hrun : (execOp a.eval o).run P w = .ok (.value v) w') (h : wpListIn F n0 P ops Q rest (a.put o.dst v) w') : wpListIn F n0 P ops Q (o :: rest) a w :=
  wpListIn_plain hg fun _ hK => by
    unfold Oper.wpIn
    have hs : o.semAt F.round a.eval = execOp a.eval o := Oper.semAt_eq _ _ _ hnd
    rw [hs, hrun]
    exact ⟨fun f hf => (by rw [hab] at hf; cases hf), hK _ _ h⟩
theorem in_skip (hg : o.guard = none) (hnd : ∀ c, o.op ≠ .defer c) (hab : o.about P w a.eval = none) {w' : World} (hrun : (execOp a.eval o).run P w = .ok .skip w') (h : wpListIn F n0 P ops Q rest (a.put o.dst undef) w') : wpListIn F n0 P ops Q (o :: rest) a w :=
  wpListIn_plain hg fun _ hK => by
    unfold Oper.wpIn
    have hs : o.semAt F.round a.eval = execOp a.eval o := Oper.semAt_eq _ _ _ hnd
    rw [hs, hrun]
    exact ⟨fun f hf => (by rw [hab] at hf; cases hf), hK _ _ h⟩
theorem in_loadRow (hR : RK W0 B0 w0 L w) (hg : o.guard = none) {ty : TypeId} {x : Operand} (ho : o.op = .load ty x) {n b off : Nat} (hx : a.eval x = .pointer (some ⟨b, off, none⟩)) (hT : RowT P ty n) {l vs : List Value} {t : TypeId}
    (hm : (b, Obj.cells l.toArray t) ∈ L) (hv : (l.drop off).take n = vs) (hn : vs.length = n) (h : wpListIn F n0 P ops Q rest (a.put o.dst (.agg vs.toArray)) w) : wpListIn F n0 P ops Q (o :: rest) a w :=
  in_ok hg (by intro c; rw [ho]; exact fun h => nomatch h) (by unfold Oper.about; simp only [ho]) (by unfold execOp; simp only [ho, hx, Instr.loadAt, Instr.sureAddr, Sem.run_bind, Sem.run_pure, Result.andThen_ok, hR.rep.loadRow (P := P) (ty := ty) hm hv hn]) h
theorem in_loadAll (hR : RK W0 B0 w0 L w) (hg : o.guard = none) {ty : TypeId} {x : Operand} (ho : o.op = .load ty x) {n b : Nat} (hx : a.eval x = .pointer (some ⟨b, 0, none⟩)) (hT : RowT P ty n) {l : List Value} {t : TypeId}
    (hm : (b, Obj.cells l.toArray t) ∈ L) (hn : l.length = n) (h : wpListIn F n0 P ops Q rest (a.put o.dst (.agg l.toArray)) w) : wpListIn F n0 P ops Q (o :: rest) a w :=
  in_loadRow hR hg ho hx hT hm (by simp [← hn]) hn h
theorem in_loadCell (hR : RK W0 B0 w0 L w) (hg : o.guard = none) {ty : TypeId} {x : Operand} (ho : o.op = .load ty x) {b off : Nat} (hx : a.eval x = .pointer (some ⟨b, off, none⟩)) (hT : CellT P ty) {l : List Value} {v : Value} {t : TypeId}
    (hm : (b, Obj.cells l.toArray t) ∈ L) (hv : l[off]? = some v) (h : wpListIn F n0 P ops Q rest (a.put o.dst v) w) : wpListIn F n0 P ops Q (o :: rest) a w :=
  in_ok hg (by intro c; rw [ho]; exact fun h => nomatch h) (by unfold Oper.about; simp only [ho]) (by unfold execOp; simp only [ho, hx, Instr.loadAt, Instr.sureAddr, Sem.run_bind, Sem.run_pure, Result.andThen_ok, hR.rep.loadCell (P := P) (ty := ty) hm hv]) h
theorem in_storeRow (hR : RK W0 B0 w0 L w) (hg : o.guard = none) {ty : TypeId} {x y : Operand} (ho : o.op = .store ty x y) {n b off : Nat} (hx : a.eval x = .pointer (some ⟨b, off, none⟩)) (hT : RowT P ty n) {l l' vs : List Value} {t : TypeId}
    (hy : a.eval y = .agg vs.toArray) (h1 : vs.all (·.oneCell') = true) (hvn : vs.length = n) (hs : SetAt L b (.cells l.toArray t) (.cells l'.toArray t) L') (hn : off + n ≤ l.length) (hl : l.take off ++ vs ++ l.drop (off + n) = l')
    (h : ∀ w', RK W0 B0 w0 L' w' → wpListIn F n0 P ops Q rest (a.put o.dst undef) w') : wpListIn F n0 P ops Q (o :: rest) a w := by
  obtain ⟨w', e, hR'⟩ := hR.storeRow (P := P) (ty := ty) h1 hvn hs hn hl
  exact in_skip hg (by intro c; rw [ho]; exact fun h => nomatch h) (by unfold Oper.about; simp only [ho]) (by unfold execOp; simp only [ho, hx, hy, Instr.storeAt, Instr.sureAddr, Sem.run_bind, Sem.run_pure, Result.andThen_ok, e]) (h w' hR')
theorem in_storeAll (hR : RK W0 B0 w0 L w) (hg : o.guard = none) {ty : TypeId} {x y : Operand} (ho : o.op = .store ty x y) {n b : Nat} (hx : a.eval x = .pointer (some ⟨b, 0, none⟩)) (hT : RowT P ty n) {l vs : List Value} {t : TypeId}
    (hy : a.eval y = .agg vs.toArray) (hs : SetAt L b (.cells l.toArray t) (.cells vs.toArray t) L') (h1 : vs.all (·.oneCell') = true) (hvn : vs.length = n) (hn : l.length = n)
    (h : ∀ w', RK W0 B0 w0 L' w' → wpListIn F n0 P ops Q rest (a.put o.dst undef) w') : wpListIn F n0 P ops Q (o :: rest) a w :=
  in_storeRow hR hg ho hx hT hy h1 hvn hs (by omega) (by simp [← hn]) h
theorem in_storeCell (hR : RK W0 B0 w0 L w) (hg : o.guard = none) {ty : TypeId} {x y : Operand} (ho : o.op = .store ty x y) {b off : Nat} (hx : a.eval x = .pointer (some ⟨b, off, none⟩)) (hT : CellT P ty) {l l' : List Value} {v : Value} {t : TypeId}
    (hy' : ev a y = some v) (h1 : v.oneCell' = true) (hs : SetAt L b (.cells l.toArray t) (.cells l'.toArray t) L') (hn : off < l.length) (hl : l.set off v = l')
    (h : ∀ w', RK W0 B0 w0 L' w' → wpListIn F n0 P ops Q rest (a.put o.dst undef) w') : wpListIn F n0 P ops Q (o :: rest) a w := by
  have hy := ev_eval hy'
  obtain ⟨w', e, hR'⟩ := hR.storeCell (P := P) (ty := ty) h1 hs hn hl
  exact in_skip hg (by intro c; rw [ho]; exact fun h => nomatch h) (by unfold Oper.about; simp only [ho]) (by unfold execOp; simp only [ho, hx, hy, Instr.storeAt, Instr.sureAddr, Sem.run_bind, Sem.run_pure, Result.andThen_ok, e]) (h w' hR')
theorem in_alloc (hR : RK W0 B0 w0 L w) (hg : o.guard = none) {ty : TypeId} (ho : o.op = .alloc ty) {l : List Value} (hz : ZeroT P ty l)
    (h : ∀ b w', RK W0 B0 w0 ((b, .cells l.toArray ty) :: L) w' → wpListIn F n0 P ops Q rest (a.put o.dst (.pointer (some ⟨b, 0, none⟩))) w') : wpListIn F n0 P ops Q (o :: rest) a w := by
  obtain ⟨z, h1, h2⟩ := hz.is
  have hzv : (zeroValue ty).run P w = .ok z w := by
    cases hq : P.info? ty with
    | none => simp [hq] at h1
    | some i =>
      have : i.zero = some z := by simpa [hq] using h1
      simp [zeroValue, typeInfo, hq, this]
  have e : (Instr.alloc ty true (.tuple #[])).run P w = .ok (.pointer (some ⟨w.heap.size, 0, none⟩)) (w.alloc (.cells l.toArray ty)) := by
    simp only [Instr.alloc, Sem.run_bind, hzv, Result.andThen_ok, newVar, newRow, h2, newObj]
    rfl
  exact in_ok hg (by intro c; rw [ho]; exact fun h => nomatch h) (by unfold Oper.about; simp only [ho]) (by unfold execOp; simp only [ho, Sem.run_bind, e, Result.andThen_ok, Sem.run_pure]) (h _ _ ⟨hR.rep.alloc _, hR.keeps.trans (KeepsOthers.alloc _ _)⟩)
end lists
end Go.Proofs.Ytdmdkdodfngjiaa
