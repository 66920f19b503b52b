import Derived.RangeFuncNested
import Derived.RangeFuncBound
import Derived.RangeFuncCalls
import Derived.RangeFuncLeaves
import Derived.RangeFuncBox
import Derived.RangeFuncFrom
import Derived.Shelf.Abstract
import Derived.Shelf.RegionOpen
import Derived.WalkKit
import Derived.OwnWalkIn
import Derived.TacticsInMore
import Derived.LoopNIn
import Derived.LoopIn
import Derived.Sort.CutIn
import Derived.Stop.RegionWithIn
import Derived.Test.YtaaahfjpnggkbaaGreatDoorHA
import Derived.Test.YtaaahfjpnggkbaaGreatDoorHN
import Derived.RangeFuncOwn
import Derived.TacticsIn
import Derived.Test.YtaaahfjpnggkbaaGreatDoorHF2
import Derived.Test.YtaaahfjpnggkbaaGreatDoorHO
import Derived.Test.YtaaahfjpnggkbaaGreatDoorHG
import Derived.Maps.AppendAt
import Derived.Laws.MakeOwn
import Derived.Test.YtaaahfjpnggkbaaGreatDoorHR
import Derived.DataReads
import Derived.Test.YtaaahfjpnggkbaaGreatDoorHP
set_option linter.unusedSimpArgs false
set_option linter.unusedVariables false
set_option maxRecDepth 100000
set_option maxHeartbeats 20000000
namespace Go.Proofs.YtaaahfjpnggkbaaGreatDoor
open Go.RowKit
section
attribute [local go_sem] Oper.semAt_some
abbrev Pair := { x : Nat × Nat // x.1 < B ∧ x.2 < B }
def up (zs : Nat → Pair) (m : Nat) : List Pair := (List.range m).map zs
theorem up_zero (zs : Nat → Pair) : up zs 0 = [] := rfl
theorem up_succ (zs : Nat → Pair) (m : Nat) : up zs (m + 1) = up zs m ++ [zs m] := by simp [up, List.range_succ]
theorem up_length (zs : Nat → Pair) (m : Nat) : (up zs m).length = m := by simp [up]
def keepS (bs : List Nat) (A B : World) : Prop := ∀ p : Addr, p.block ∈ bs → B.cell? p = A.cell? p
theorem keepS_t {bs : List Nat} {A B C : World} (h1 : keepS bs A B) (h2 : keepS bs B C) : keepS bs A C := fun p hp => (h2 p hp).trans (h1 p hp)
theorem keepS_b {bs : List Nat} {w : World} (h1 : ∀ b ∈ bs, b < w.heap.size) (W : World) (l : Nat) (o o' : Obj) (hl : w.heap.size ≤ l) (_ : W.heap[l]? = some o) (_ : o.isCells = false) (_ : o.isWalk = false) : keepS bs W (W.putObj l o') := fun p hp =>
 World.cell?_of_block (World.putObj_heap_other (fun e => by have := h1 _ hp; omega))
def xDt (w : World) (b i a : Nat) : Prop := w.cell? ⟨b, i, none⟩ = some (.int .u64 (wd a 0)) ∧ w.cell? ⟨b, i + 1, none⟩ = some (.int .u64 (wd a 1)) ∧ w.cell? ⟨b, i + 2, none⟩ = some (.int .u64 (wd a 2)) ∧ w.cell? ⟨b, i + 3, none⟩ = some (.int .u64 (wd a 3))
theorem xDt.drew {w : World} {b i a : Nat} (h : xDt w b i a) : xDt w.drew b i a := h
theorem xDt.load {w : World} {b i a : Nat} (h : xDt w b i a) : (loadVar 24 ⟨b, i, none⟩).run Tryz.prog w = .ok (num a) w := by
 obtain ⟨d, hu, hd, hi⟩ := (inferInstance : RowT Tryz.prog 24 4).is
 obtain ⟨h0, h1, h2, h3⟩ := h
 refine run_loadVar_mid w b i _ (nl a) d (fun j v hj => ?_) hu hd (by rw [hi]; rfl)
 unfold nl at hj
 rcases j with _ | _ | _ | _ | j
 ·obtain rfl : _ = v := by simpa using hj
  exact h0
 ·obtain rfl : _ = v := by simpa using hj
  exact h1
 ·obtain rfl : _ = v := by simpa using hj
  exact h2
 ·obtain rfl : _ = v := by simpa using hj
  exact h3
 ·simp at hj
instance cellNums : xDp Tryz.prog 27 := .mk' (by kernel_rfl) (by kernel_rfl)
theorem load_cell {ty : TypeId} [hT : xDp Tryz.prog ty] {ad : Addr} {v : Value} {w : World} (h : w.cell? ad = some v) : (loadVar ty ad).run Tryz.prog w = .ok v w := by
 obtain ⟨d, hu, hd, hi⟩ := hT.is
 have hagg : (isAgg ty).run Tryz.prog w = .ok false w := by
  unfold isAgg
  rw [Sem.run_bind, run_underlying hu w]
  cases d <;> simp_all
 have hl : (load ad).run Tryz.prog w = .ok v w := by
  simp only [load, Sem.run, h]
 unfold loadVar
 rw [Sem.run_bind, hagg]
 simp only [Result.andThen_ok, Bool.false_eq_true, if_false]
 exact hl
section
variable {P : Program} {ops : Array Oper} {w : World} {ts : List Nat} {r acc : List Oper} {o : Oper} {a : Act} {K : List Oper → Act → Prop}
theorem hr_load (hw : Region.wanted o (yielded ops a.tmps) = true) {ty : TypeId} {x : Operand} (hop : o.op = .load ty x) {ad : Addr} (hx : a.eval x = .pointer (some ad)) {v : Value} (hv : (loadVar ty ad).run P w = .ok v w)
  {a' : Act} (ha : a.put o.dst v = a') (h : headR P ops w K ts r acc a') : headR P ops w K (0 :: ts) (o :: r) acc a :=
 hr_read hw (by unfold Oper.about; simp only [hop]) (by unfold execOp; simp only [hop, hx, Instr.loadAt, Instr.sureAddr, Sem.run_bind, Sem.run_pure, Result.andThen_ok, hv]) ha h
end
theorem pairs1_in (F : Fence) (n : Nat) (h7 : F.fn 220) (hro : F.round = none) (hn : 1 ≤ n) (l Ba Bn ba bn oa on len ca cn : Nat) (pa pn : Option Addr) (zs : Nat → Pair) (hlen : len ≤ 1000000) (hpa : 0 < len → pa = some ⟨ba, oa, none⟩) (hpn : 0 < len → pn = some ⟨bn, on, none⟩) (J Jx : List Pair → World → Prop)
  (hJd : ∀ s W, J s W → J s W.drew)
  (hY : ∀ pre (x : Pair) W, J pre W → pre.length < len → YieldAt F (n - 1) Tryz.prog l #[num x.1.1, num x.1.2] W fun e W' =>
   (e = .returned (.bool true) ∧ J (pre ++ [x]) W' ∧ keepS [Ba, Bn, ba, bn] W W') ∨ (e = .returned (.bool false) ∧ Jx (pre ++ [x]) W'))
  (W : World) (hBa : W.cell? ⟨Ba, 0, none⟩ = some (.slice pa len ca)) (hBn : W.cell? ⟨Bn, 0, none⟩ = some (.slice pn len cn)) (hca : ∀ j, j < len → xDt W ba (oa + j * 4) (zs j).1.1) (hcn : ∀ j, j < len → xDt W bn (on + j * 4) (zs j).1.2) (h0 : J [] W) :
  CallsIn F n Tryz.prog 220 #[.func (.yield l) #[] #[], .pointer (some ⟨Ba, 0, none⟩), .pointer (some ⟨Bn, 0, none⟩)] W fun e W' => (∃ v, e = .returned v) ∧
   ((∃ ys, ys = up zs len ∧ J ys W') ∨ (∃ pre, (∃ m, m ≤ len ∧ pre = up zs m) ∧ Jx pre W')) := by
 refine callsIn_of_wp Tryz.func220 rfl h7 ?_ hro
 simp only [Tryz.ntmps220, List.size_toArray, List.length_cons, List.length_nil, Nat.reduceAdd, Nat.reduceSub, Array.replicate_succ, Array.replicate_zero, List.push_toArray, List.append_toArray, List.nil_append, List.cons_append]
 have l0 : 0 ≤ (len : Int) := by omega
 have l1 : (len : Int) ≤ 1000000 := by omega
 gi_wp2
 gi_loopw [7] (fun i wr => ∃ m : Nat, m ≤ len ∧ i = .int .i64 (m : Int) ∧ J (up zs m) wr ∧ keepS [Ba, Bn, ba, bn] W wr)
  (fun i _ => len - (intOf i).toNat)
 case atStart => exact ⟨0, Nat.zero_le _, rfl, h0, fun _ _ => rfl⟩
 case round =>
  obtain ⟨m, hm, rfl, hJs, hnx⟩ := hrel
  by_cases hlt : m < len
  ·have e1 : wr.cell? ⟨Ba, 0, none⟩ = some (.slice pa len ca) := (hnx ⟨Ba, 0, none⟩ (by simp)).trans hBa
   have e2 : wr.cell? ⟨Bn, 0, none⟩ = some (.slice pn len cn) := (hnx ⟨Bn, 0, none⟩ (by simp)).trans hBn
   have m1 : (m : Int) < (len : Int) := by omega
   have m0 : 0 ≤ (m : Int) := by omega
   obtain ⟨a0, a1, a2, a3⟩ := hca m hlt
   obtain ⟨b0, b1, b2, b3⟩ := hcn m hlt
   rw [← hnx ⟨ba, _, none⟩ (by simp)] at a0 a1 a2 a3
   rw [← hnx ⟨bn, _, none⟩ (by simp)] at b0 b1 b2 b3
   have ln1 : (loadVar 24 ⟨ba, oa + m * 4, none⟩).run Tryz.prog wr.drew = .ok (num (zs m).1.1) wr.drew := xDt.load ⟨a0, a1, a2, a3⟩
   have ln2 : (loadVar 24 ⟨bn, on + m * 4, none⟩).run Tryz.prog wr.drew = .ok (num (zs m).1.2) wr.drew := xDt.load ⟨b0, b1, b2, b3⟩
   obtain rfl := hpa (by omega)
   obtain rfl := hpn (by omega)
   have ls1 : (loadVar 27 ⟨Ba, 0, none⟩).run Tryz.prog wr.drew = .ok (.slice (some ⟨ba, oa, none⟩) len ca) wr.drew := load_cell (w := wr.drew) e1
   have ls2 : (loadVar 27 ⟨Bn, 0, none⟩).run Tryz.prog wr.drew = .ok (.slice (some ⟨bn, on, none⟩) len cn) wr.drew := load_cell (w := wr.drew) e2
   clear a0 a1 a2 a3 b0 b1 b2 b3
   obtain ⟨fn, tmps, assign, body, hy, hR⟩ := hY _ (zs m) wr.drew (hJd _ _ hJs) (by rw [up_length]; omega)
   replace hJs := Held.mk hJs
   replace hnx := Held.mk hnx
   replace hca := Held.mk hca
   replace hcn := Held.mk hcn
   replace hBa := Held.mk hBa
   replace hBn := Held.mk hBn
   replace hY := Held.mk hY
   replace hJd := Held.mk hJd
   clear h0
   gi_upto_region 3 with fail
   refine' xHo [0, 0, 0, 0, 0, 0, 0, 0, 0, 2, 2] 1 xBd hro rfl rfl (by kernel_rfl) (by kernel_rfl) (fun K hK => ?_)
   repeat ((first | (refine' hr_load rfl rfl rfl ls1 ?ha ?_) | (refine' hr_load rfl rfl rfl ls2 ?ha ?_) | (refine' hr_load rfl rfl rfl ln1 ?ha ?_) | (refine' hr_load rfl rfl rfl ln2 ?ha ?_) | (refine hr_tail ?_) | (refine' hr_read rfl rfl ?hq ?ha ?_; (case hq => go_simp; try rfl))); try (case ha => simp only [kP, kQ, kA, kB]; try rfl))
   refine hr_nil (hK _ ?_)
   clear hK K
   refine wpAnyIn_ready (rs := [9]) (by kernel_rfl) (by simp) ?_
   refine AllReadyIn.cons rfl (fun K hK => ?_) AllReadyIn.nil
   clear ln1 ln2 ls1 ls2
   replace hK := Held.mk hK
   go_simp
   refine hR.mono ?_
   rintro e W3 (⟨rfl, hJ3, hk3⟩ | ⟨rfl, hJx3⟩)
   ·refine hK.out _ _ ?_
    clear hK K
    refine wpAnyIn_ready (rs := [10]) (by kernel_rfl) (by simp) ?_
    refine AllReadyIn.cons rfl (fun K hK => ?_) AllReadyIn.nil
    replace hK := Held.mk hK
    go_simp
    refine hK.out _ _ ?_
    clear hK K
    refine wpAnyIn_done (by kernel_rfl) ?_ _
    gi_wp2
    go_roundw
    case rel => exact ⟨m + 1, by omega, by simp, by rw [up_succ]; exact hJ3, keepS_t hnx.out hk3⟩
    case measure => simp [intOf]; omega
   ·refine hK.out _ _ ?_
    clear hK K
    refine wpAnyIn_ready (rs := [10]) (by kernel_rfl) (by simp) ?_
    refine AllReadyIn.cons rfl (fun K hK => ?_) AllReadyIn.nil
    replace hK := Held.mk hK
    go_simp
    refine hK.out _ _ ?_
    clear hK K
    refine wpAnyIn_done (by kernel_rfl) ?_ _
    gi_wp2
    refine bodyPost_ret (results_none rfl _ _ _) rfl ?_
    exact ⟨⟨_, rfl⟩, .inr ⟨_, ⟨m + 1, by omega, (up_succ zs m).symm⟩, hJx3⟩⟩
  ·gi_wp2
   go_end0
   exact ⟨⟨_, rfl⟩, .inl ⟨_, rfl, by rw [show len = m by omega]; exact hJs⟩⟩
theorem pairs_stops (F : Fence) (n : Nat) (h7 : F.fn 220) (hro : F.round = none) (hn : 1 ≤ n) (Ba Bn ba bn oa on len ca cn : Nat) (pa pn : Option Addr) (zs : Nat → Pair) (hlen : len ≤ 1000000) (hpa : 0 < len → pa = some ⟨ba, oa, none⟩) (hpn : 0 < len → pn = some ⟨bn, on, none⟩) (w : World) (hb : ∀ b ∈ [Ba, Bn, ba, bn], b < w.heap.size)
  (hBa : w.cell? ⟨Ba, 0, none⟩ = some (.slice pa len ca)) (hBn : w.cell? ⟨Bn, 0, none⟩ = some (.slice pn len cn)) (hca : ∀ j, j < len → xDt w ba (oa + j * 4) (zs j).1.1) (hcn : ∀ j, j < len → xDt w bn (on + j * 4) (zs j).1.2) :
  SeqStopsK F n Tryz.prog 220 #[.pointer (some ⟨Ba, 0, none⟩), .pointer (some ⟨Bn, 0, none⟩)] (fun x : Pair => #[num x.1.1, num x.1.2]) (keepS [Ba, Bn, ba, bn]) (fun ys => ys = up zs len) (fun pre => ∃ m, m ≤ len ∧ pre = up zs m) len w := fun l J Jx W hW hJa _ hY h0 => by
 have kp : ∀ p : Addr, p.block ∈ [Ba, Bn, ba, bn] → ∀ v, w.cell? p = some v → W.cell? p = some v := fun p hp v hv => (hW.cell (p := p) (by exact hb _ hp)).trans hv
 refine pairs1_in F n h7 hro hn l Ba Bn ba bn oa on len ca cn pa pn zs hlen hpa hpn J Jx ?hJd hY W (kp _ (by simp) _ hBa) (kp _ (by simp) _ hBn) (fun j hj => ?h1) (fun j hj => ?h2) h0
 case h1 =>
  obtain ⟨a0, a1, a2, a3⟩ := hca j hj
  exact ⟨kp _ (by simp) _ a0, kp _ (by simp) _ a1, kp _ (by simp) _ a2, kp _ (by simp) _ a3⟩
 case h2 =>
  obtain ⟨a0, a1, a2, a3⟩ := hcn j hj
  exact ⟨kp _ (by simp) _ a0, kp _ (by simp) _ a1, kp _ (by simp) _ a2, kp _ (by simp) _ a3⟩
 case hJd =>
  intro s W2 hs
  exact hJa s W2 W2.drew none hs ⟨rfl, rfl, rfl, Nat.le_refl _, fun _ _ _ => rfl⟩ (fun r e => by cases e)
end
section
theorem KeepsOthers.setCellsK (b : Nat) : ∀ (vs : List Value) (o : Nat) (w : World), KeepsOthers w (w.setCells b o vs)
  | [], o, w => KeepsOthers.refl w
  | v :: vs, o, w => by
    rw [World.setCells]
    exact (KeepsOthers.setCell w _ v).trans (KeepsOthers.setCellsK b vs (o + 1) _)
theorem KeepsOthers.belowK {W W' : World} (h : Below W.heap.size W W') : KeepsOthers W W' :=
 ⟨h.size, fun k o hk _ => by rw [h.block k (Array.getElem?_eq_some_iff.1 hk).1]; exact hk⟩
structure RK (W0 : World) (B0 : Nat) (w0 : World) (L : List (Nat × Obj)) (w : World) : Prop where
 rep : Rep B0 w0 L w
 kept : KeepsOthers W0 w
section
variable {W0 w w0 : World} {B0 : Nat} {L L' : List (Nat × Obj)}
theorem RK.call {w' : World} (h : RK W0 B0 w0 L w) (hb : Below w.heap.size w w') : RK W0 B0 w0 L w' := ⟨h.rep.call hb, h.kept.trans (KeepsOthers.belowK hb)⟩
theorem RK.weaken (h : RK W0 B0 w0 L w) (hs : L'.Sublist L) : RK W0 B0 w0 L' w := ⟨h.rep.weaken hs, h.kept⟩
theorem RK.drew (h : RK W0 B0 w0 L w) : RK W0 B0 w0 L w.drew := ⟨h.rep.drew, h.kept.trans (KeepsOthers.drew _)⟩
theorem RK.storeRow {P : Program} (h : RK W0 B0 w0 L w) {ty : TypeId} {n : Nat} [hT : RowT P ty n] {b off : Nat} {l l' vs : List Value} {t : TypeId} (h1 : vs.all (·.oneCell') = true) (hvn : vs.length = n)
  (hs : xBq L b (.cells l.toArray t) (.cells l'.toArray t) L') (hn : off + n ≤ l.length) (hl : l.take off ++ vs ++ l.drop (off + n) = l') :
  ∃ w', (storeVar ty ⟨b, off, none⟩ (.agg vs.toArray)).run P w = .ok () w' ∧ RK W0 B0 w0 L' w' := by
 obtain ⟨d, hu, hd, hi⟩ := hT.is
 subst hvn
 obtain ⟨a1, a2⟩ := h.rep.storeCells hs hn hl
 exact ⟨_, run_storeVar_mid w b off ty vs.toArray (by simpa using a2) (by simp [hi]) (by simpa using h1), by simpa using a1, h.kept.trans (by simpa using KeepsOthers.setCellsK b vs off w)⟩
theorem RK.storeCell {P : Program} (h : RK W0 B0 w0 L w) {ty : TypeId} [hT : xDp P ty] {b off : Nat} {l l' : List Value} {v : Value} {t : TypeId} (h1 : v.oneCell' = true)
  (hs : xBq L b (.cells l.toArray t) (.cells l'.toArray t) L') (hn : off < l.length) (hl : l.set off v = l') :
  ∃ w', (storeVar ty ⟨b, off, none⟩ v).run P w = .ok () w' ∧ RK W0 B0 w0 L' w' := by
 obtain ⟨d, hu, hd, hi⟩ := hT.is
 obtain ⟨a1, a2⟩ := h.rep.storeCells (vs := [v]) (off := off) hs (by simp; omega) (by
  rw [← hl]
  simp only [List.length_cons, List.length_nil, List.append_assoc, List.cons_append, List.nil_append, Nat.zero_add]
  rw [List.set_eq_take_append_cons_drop, if_pos hn])
 have hc : v.cells = #[v] := by cases v <;> first | rfl | cases h1
 have := run_storeCells_cells (P := P) b off [v] 0 w (fun j hj => by simpa using (a2 j hj).1) (fun j hj => by simpa using (a2 j hj).2) (by simpa using h1)
 cases hq : P.info? ty with
 | none => simp [hq] at hi
 | some i =>
  have hs1 : i.size = 1 := by simpa [hq] using hi
  refine ⟨w.setCells b off [v], ?_, a1, h.kept.trans (KeepsOthers.setCellsK b [v] off w)⟩
  simp only [Nat.add_zero] at this
  simp [storeVar, sizeOf, typeInfo, hq, hc, hs1, this]
end
section lists
variable {F : Fence} {n0 : Nat} {P : Program} {ops : Array Oper} {rest : List Oper} {o : Oper} {a : Act} {w w0 W0 : World} {Q : Exit → Act → World → Prop} {B0 : Nat} {L L' : List (Nat × Obj)}
theorem in_ok (hg : o.guard = none) (hnd : ∀ c, o.op ≠ .defer c) (hab : o.about P w a.eval = none) {v : Value} {w' : World} (hrun : (execOp a.eval o).run P w = .ok (.value v) w') (h : wpListIn F n0 P ops Q rest (a.put o.dst v) w') : wpListIn F n0 P ops Q (o :: rest) a w :=
 wpListIn_plain hg fun _ hK => by
  unfold Oper.wpIn
  have hs : o.semAt F.round a.eval = execOp a.eval o := Oper.semAt_eq _ _ _ hnd
  rw [hs, hrun]
  exact ⟨fun f hf => (by rw [hab] at hf; cases hf), hK _ _ h⟩
theorem in_skip (hg : o.guard = none) (hnd : ∀ c, o.op ≠ .defer c) (hab : o.about P w a.eval = none) {w' : World} (hrun : (execOp a.eval o).run P w = .ok .skip w') (h : wpListIn F n0 P ops Q rest (a.put o.dst undef) w') : wpListIn F n0 P ops Q (o :: rest) a w :=
 wpListIn_plain hg fun _ hK => by
  unfold Oper.wpIn
  have hs : o.semAt F.round a.eval = execOp a.eval o := Oper.semAt_eq _ _ _ hnd
  rw [hs, hrun]
  exact ⟨fun f hf => (by rw [hab] at hf; cases hf), hK _ _ h⟩
theorem in_loadRow (hR : RK W0 B0 w0 L w) (hg : o.guard = none) {ty : TypeId} {x : Operand} (ho : o.op = .load ty x) {n b off : Nat} (hx : a.eval x = .pointer (some ⟨b, off, none⟩)) (hT : RowT P ty n) {l vs : List Value} {t : TypeId}
  (hm : (b, Obj.cells l.toArray t) ∈ L) (hv : (l.drop off).take n = vs) (hn : vs.length = n) (h : wpListIn F n0 P ops Q rest (a.put o.dst (.agg vs.toArray)) w) : wpListIn F n0 P ops Q (o :: rest) a w :=
 in_ok hg (by intro c; rw [ho]; exact fun h => nomatch h) (by unfold Oper.about; simp only [ho]) (by unfold execOp; simp only [ho, hx, Instr.loadAt, Instr.sureAddr, Sem.run_bind, Sem.run_pure, Result.andThen_ok, hR.rep.loadRow (P := P) (ty := ty) hm hv hn]) h
theorem in_loadAll (hR : RK W0 B0 w0 L w) (hg : o.guard = none) {ty : TypeId} {x : Operand} (ho : o.op = .load ty x) {n b : Nat} (hx : a.eval x = .pointer (some ⟨b, 0, none⟩)) (hT : RowT P ty n) {l : List Value} {t : TypeId}
  (hm : (b, Obj.cells l.toArray t) ∈ L) (hn : l.length = n) (h : wpListIn F n0 P ops Q rest (a.put o.dst (.agg l.toArray)) w) : wpListIn F n0 P ops Q (o :: rest) a w :=
 in_loadRow hR hg ho hx hT hm (by simp [← hn]) hn h
theorem in_storeRow (hR : RK W0 B0 w0 L w) (hg : o.guard = none) {ty : TypeId} {x y : Operand} (ho : o.op = .store ty x y) {n b off : Nat} (hx : a.eval x = .pointer (some ⟨b, off, none⟩)) (hT : RowT P ty n) {l l' vs : List Value} {t : TypeId}
  (hy : a.eval y = .agg vs.toArray) (h1 : vs.all (·.oneCell') = true) (hvn : vs.length = n) (hs : xBq L b (.cells l.toArray t) (.cells l'.toArray t) L') (hn : off + n ≤ l.length) (hl : l.take off ++ vs ++ l.drop (off + n) = l')
  (h : ∀ w', RK W0 B0 w0 L' w' → wpListIn F n0 P ops Q rest (a.put o.dst undef) w') : wpListIn F n0 P ops Q (o :: rest) a w := by
 obtain ⟨w', e, hR'⟩ := hR.storeRow (P := P) (ty := ty) h1 hvn hs hn hl
 exact in_skip hg (by intro c; rw [ho]; exact fun h => nomatch h) (by unfold Oper.about; simp only [ho]) (by unfold execOp; simp only [ho, hx, hy, Instr.storeAt, Instr.sureAddr, Sem.run_bind, Sem.run_pure, Result.andThen_ok, e]) (h w' hR')
theorem xFr (hR : RK W0 B0 w0 L w) (hg : o.guard = none) {ty : TypeId} {x y : Operand} (ho : o.op = .store ty x y) {n b : Nat} (hx : a.eval x = .pointer (some ⟨b, 0, none⟩)) (hT : RowT P ty n) {l vs : List Value} {t : TypeId}
  (hy : a.eval y = .agg vs.toArray) (hs : xBq L b (.cells l.toArray t) (.cells vs.toArray t) L') (h1 : vs.all (·.oneCell') = true) (hvn : vs.length = n) (hn : l.length = n)
  (h : ∀ w', RK W0 B0 w0 L' w' → wpListIn F n0 P ops Q rest (a.put o.dst undef) w') : wpListIn F n0 P ops Q (o :: rest) a w :=
 in_storeRow hR hg ho hx hT hy h1 hvn hs (by omega) (by simp [← hn]) h
theorem in_storeCell (hR : RK W0 B0 w0 L w) (hg : o.guard = none) {ty : TypeId} {x y : Operand} (ho : o.op = .store ty x y) {b off : Nat} (hx : a.eval x = .pointer (some ⟨b, off, none⟩)) (hT : xDp P ty) {l l' : List Value} {v : Value} {t : TypeId}
  (hy' : ev a y = some v) (h1 : v.oneCell' = true) (hs : xBq L b (.cells l.toArray t) (.cells l'.toArray t) L') (hn : off < l.length) (hl : l.set off v = l')
  (h : ∀ w', RK W0 B0 w0 L' w' → wpListIn F n0 P ops Q rest (a.put o.dst undef) w') : wpListIn F n0 P ops Q (o :: rest) a w := by
 have hy := xAw hy'
 obtain ⟨w', e, hR'⟩ := hR.storeCell (P := P) (ty := ty) h1 hs hn hl
 exact in_skip hg (by intro c; rw [ho]; exact fun h => nomatch h) (by unfold Oper.about; simp only [ho]) (by unfold execOp; simp only [ho, hx, hy, Instr.storeAt, Instr.sureAddr, Sem.run_bind, Sem.run_pure, Result.andThen_ok, e]) (h w' hR')
theorem xKm (hR : RK W0 B0 w0 L w) (hg : o.guard = none) {ty : TypeId} (ho : o.op = .alloc ty) {l : List Value} (hz : xKf P ty l)
  (h : ∀ b w', RK W0 B0 w0 ((b, .cells l.toArray ty) :: L) w' → wpListIn F n0 P ops Q rest (a.put o.dst (.pointer (some ⟨b, 0, none⟩))) w') : wpListIn F n0 P ops Q (o :: rest) a w := by
 obtain ⟨z, h1, h2⟩ := hz.is
 have hzv : (zeroValue ty).run P w = .ok z w := by
  cases hq : P.info? ty with
  | none => simp [hq] at h1
  | some i =>
   have : i.zero = some z := by simpa [hq] using h1
   simp [zeroValue, typeInfo, hq, this]
 have e : (Instr.alloc ty true (.tuple #[])).run P w = .ok (.pointer (some ⟨w.heap.size, 0, none⟩)) (w.alloc (.cells l.toArray ty)) := by
  simp only [Instr.alloc, Sem.run_bind, hzv, Result.andThen_ok, newVar, newRow, h2, newObj]
  rfl
 exact in_ok hg (by intro c; rw [ho]; exact fun h => nomatch h) (by unfold Oper.about; simp only [ho]) (by unfold execOp; simp only [ho, Sem.run_bind, e, Result.andThen_ok, Sem.run_pure]) (h _ _ ⟨hR.rep.alloc _, hR.kept.trans (KeepsOthers.alloc _ _)⟩)
end lists
end
section
section
variable {α : Type} {F : Fence} {n : Nat} {P : Program}
def xFt (D : Nat) (r : Loop) (W : World) : Prop := W.heap[D + 1]? = some (.loop r) ∧ W.heap[D]? = some (.deferred (some []))
theorem xFt.grown {D : Nat} {r : Loop} {A B : World} {row : Option Nat} (h : xFt D r A) (hg : A.grownBy B row) (hr : ∀ k, row = some k → ∃ o : Obj, A.heap[k]? = some o ∧ o.isWalk = true) : xFt D r B :=
 ⟨(grownBy_keeps hg hr h.1 rfl).trans h.1, (grownBy_keeps hg hr h.2 rfl).trans h.2⟩
theorem xFt.keeps {D : Nat} {r : Loop} {A B : World} (h : xFt D r A) (hk : KeepsOthers A B) : xFt D r B := ⟨hk.same _ _ h.1 rfl, hk.same _ _ h.2 rfl⟩
theorem xFt.put {D : Nat} {r r' : Loop} {A : World} (h : xFt D r A) : xFt D r' (A.putObj (D + 1) (.loop r')) :=
 ⟨World.putObj_heap_same (Array.getElem?_eq_some_iff.1 h.1).1, (World.putObj_heap_other (by omega)).trans h.2⟩
theorem xEe {g : Operand} {ps : Array Tmp} {assign body : Code} {Q : Exit → Act → World → Prop} {a : Act} {w : World}
  (hro : F.round = none) (h1 : 1 ≤ n) {gf : Nat} {lb : Array Value} (hg : a.eval g = .func (.func gf) #[] lb) (hFg : F.fn gf) (eg : ∀ args w, (callFunc gf args).run P w = .ok (.enter gf args) w)
  {encs : α → Array Value} {Kp : World → World → Prop} {S Sp : List α → Prop} {N : Nat} (hseq : SeqStopsK F (n - 1) P gf lb encs Kp S Sp N w)
  (hKt : ∀ {A B C : World}, Kp A B → Kp B C → Kp A C) (hKb : ∀ (W : World) (l : Nat) (o o' : Obj), w.heap.size ≤ l → W.heap[l]? = some o → o.isCells = false → o.isWalk = false → Kp W (W.putObj l o')) (hps : ∀ x, (encs x).size = ps.size)
  (I : List α → World → Prop) (I1 : List α → α → Act → World → Prop) (Ix : Code → List α → World → Prop) (hI : OwnFrom w.heap.size I) (hI1 : ∀ x b, OwnFrom w.heap.size fun pre W => I1 pre x b W) (hIx : ∀ c, OwnFrom w.heap.size (Ix c)) (h0 : I [] w)
  (hvars : ∀ (l : Nat) (pre : List α) (x : α) (W : World) (K : Act → World → Prop), I pre W → pre.length < N → (∀ b W', KeepsOthers W W' → Kp W W' → I1 pre x b W' → K b W') →
   assign.wpIn (F.inRound l) (n - 1 - 1) P (Exit.then K (fun _ _ _ => False)) { tmps := (ps.zip (encs x)).foldl (fun t (p, v) => t.setIfInBounds p v) a.tmps, defers := [] } W)
  (hbody : ∀ (l : Nat) (pre : List α) (x : α) (b : Act) (W : World), I1 pre x b W → body.wpIn (F.inRound l) (n - 1 - 1) P (ownPostK Kp I Ix (pre ++ [x]) W) b W)
  (hdone : ∀ (D : Nat) (xs : List α) (W : World), w.heap.size ≤ D → S xs → I xs W → W.heap[D]? = some (.deferred (some [])) → Q .normal { a with defers := { target := .collected D, args := #[] } :: a.defers } W)
  (hstop : ∀ (D : Nat) (c : Code) (pre : List α) (W : World), w.heap.size ≤ D → Sp pre → Ix c pre W → W.heap[D]? = some (.deferred (some [])) → c.wpIn F n P Q { a with defers := { target := .collected D, args := #[] } :: a.defers } W) :
  (Code.rangeFunc g ps assign body).wpIn F n P Q a w := by
 refine wpIn_rangeFunc ?_
 intro fn hfn
 rw [hro]
 obtain ⟨D, hD⟩ : ∃ D, w.heap.size = D := ⟨_, rfl⟩
 obtain ⟨st, hst⟩ : ∃ st : LoopState → Option Code → Loop, st = fun s c => { state := s, pending := c, fn, tmps := a.tmps, params := ps, assign, body, defers := D } := ⟨_, rfl⟩
 obtain ⟨W1, hW1⟩ : ∃ W1, (w.alloc (.deferred (some []))).alloc (.loop (st .ready none)) = W1 := ⟨_, rfl⟩
 have hs1 : W1.heap.size = D + 2 := by rw [← hW1]; simp [hD]
 have hL1 : xFt D (st .ready none) W1 := by
  refine ⟨?_, ?_⟩
  ·rw [← hW1, ← hD]
   have := World.alloc_heap_new (w.alloc (.deferred (some []))) (.loop (st .ready none))
   rwa [World.size_alloc] at this
  ·rw [← hW1, ← hD]
   exact (Below.heap_alloc _ _ _ (by simp)).trans (World.alloc_heap_new w _)
 have hb1 : Below w.heap.size w W1 := by
  rw [← hW1]
  exact ((Below.refl _ w).alloc (Nat.le_refl _) _).alloc (by simp) _
 have hI0 : I [] W1 := by rw [← hW1]; exact hI.alloc _ (hI.alloc _ h0)
 have down : ∀ {A : World} {row : Option Nat}, (∀ r, row = some r → W1.heap.size ≤ r ∧ ∃ o : Obj, A.heap[r]? = some o ∧ o.isWalk = true) → ∀ r, row = some r → w.heap.size ≤ r ∧ ∃ o : Obj, A.heap[r]? = some o ∧ o.isCells = false := fun hr r e => by
  obtain ⟨h1, o, ho, hw⟩ := hr r e
  exact ⟨by rw [hs1] at h1; omega, o, ho, Obj.not_cells_of_walk hw⟩
 have lD : w.heap.size ≤ D + 1 := by omega
 refine ⟨D + 1, [{ target := .collected D, args := #[] }], W1, { target := .fn (.func gf) lb, args := #[.func (.yield (D + 1)) #[] #[]] }, W1, gf, #[.func (.yield (D + 1)) #[] #[]] ++ lb, W1, ?_, ?_, ?_, ?_, fun _ => h1, ?_⟩
 ·rw [← hW1, hst, ← hD]; exact run_enterLoop_outer _ _ _ _ _
 ·simp only [resolve, hg]
  simp [go_sem]
 ·intro f' hf'
  simp [Target.leads] at hf'
  subst hf'
  exact hFg
 ·simp [invoke, go_sem, eg]
 refine (hseq (D + 1) (fun pre W => I pre W ∧ xFt D (st .ready none) W) (fun pre W => ∃ c, Ix c pre W ∧ xFt D (st .done (some c)) W) W1 hb1
  (fun s A A' row hs hg' hr => ⟨hI s A A' row hs.1 hg' (down hr), hs.2.grown hg' fun r e => (hr r e).2⟩)
  (fun s A A' row ⟨c, hc, hl⟩ hg' hr => ⟨c, hIx c s A A' row hc hg' (down hr), hl.grown hg' fun r e => (hr r e).2⟩) ?round ⟨hI0, hL1⟩).mono ?behind
 case round =>
  rintro pre x W ⟨hi, hl⟩ hlen
  have hy := run_yield (P := P) (args := encs x) hl.1 (by rw [hst]; exact hps x)
  rw [hst] at hy
  refine ⟨fn, _, assign, body, hy, roundIn_of_wpIn hfn (hvars _ pre x W _ hi hlen fun b W' hk' hkp' hi' => ⟨_, run_beginRound (hl.keeps hk').1 (by rw [hst]), ?_⟩)⟩
  have hl' := hl.keeps hk'
  have hlb : xFt D { st .ready none with state := .busy } (W'.putObj (D + 1) (.loop { st .ready none with state := .busy })) := hl'.put
  have hkb : Kp W' (W'.putObj (D + 1) (.loop { st .ready none with state := .busy })) := hKb _ _ _ _ lD hl'.1 rfl rfl
  refine wpIn_mono (hbody _ pre x b _ ((hI1 x b).putObj _ hi' lD hl'.1 rfl)) ?_
  have fin : ∀ (jump : Option Code) (W3 : World), KeepsOthers (W'.putObj (D + 1) (.loop { st .ready none with state := .busy })) W3 →
    (Instr.endRound (D + 1) jump).run P W3 = .ok (.bool jump.isNone) (W3.putObj (D + 1) (.loop (st (if jump.isNone then .ready else .done) jump))) ∧ xFt D { st .ready none with state := .busy } W3 ∧
    xFt D (st (if jump.isNone then .ready else .done) jump) (W3.putObj (D + 1) (.loop (st (if jump.isNone then .ready else .done) jump))) := fun jump W3 hk3 => by
   have hl3 := hlb.keeps hk3
   have e := run_endRound (P := P) jump hl3.1
   refine ⟨?_, hl3, hl3.put⟩
   rw [hst] at e ⊢
   exact e
  rintro e a3 W3 hp
  have leave : ∀ c : Code, KeepsOthers (W'.putObj (D + 1) (.loop { st .ready none with state := .busy })) W3 ∧ Ix c (pre ++ [x]) W3 → ∃ v W4, (Instr.endRound (D + 1) (some c)).run P W3 = .ok v W4 ∧ (v = .bool false ∧ ∃ c, Ix c (pre ++ [x]) W4 ∧ xFt D (st .done (some c)) W4) := fun c ⟨hk3, hi3⟩ => by
   obtain ⟨hr, hl3, hl4⟩ := fin (some c) W3 hk3
   exact ⟨_, _, hr, rfl, c, (hIx c).putObj _ hi3 lD hl3.1 rfl, hl4⟩
  cases e with
  | normal =>
   obtain ⟨hk3, hkp3, hi3⟩ := hp
   obtain ⟨hr, hl3, hl4⟩ := fin none W3 hk3
   exact ⟨_, _, hr, .inl ⟨rfl, ⟨hI.putObj _ hi3 lD hl3.1 rfl, hl4⟩, hKt (hKt (hKt hkp' hkb) hkp3) (hKb _ _ _ _ lD hl3.1 rfl rfl)⟩⟩
  | ret =>
   obtain ⟨v, W4, hr, rfl, h4⟩ := leave .ret hp
   exact ⟨_, _, hr, .inr ⟨rfl, h4⟩⟩
  | exit id =>
   obtain ⟨v, W4, hr, rfl, h4⟩ := leave (.exit id) hp
   exact ⟨_, _, hr, .inr ⟨rfl, h4⟩⟩
  | goto t =>
   obtain ⟨v, W4, hr, rfl, h4⟩ := leave (.goto t) hp
   exact ⟨_, _, hr, .inr ⟨rfl, h4⟩⟩
  | panic ch => exact hp.elim
  | outgrown => exact hp.elim
 case behind =>
  rintro e W2 ⟨⟨v, rfl⟩, (⟨xs, hS, hi, hl⟩ | ⟨pre, hSp, c, hi, hl⟩)⟩
  ·have e := run_endLoop (P := P) hl.1 (by rw [hst]; simp)
   rw [hst] at e
   exact ⟨none, _, e, hdone _ xs _ (by omega) hS (hI.putObj _ hi lD hl.1 rfl) ((World.putObj_heap_other (by omega)).trans hl.2)⟩
  ·have e := run_endLoop (P := P) hl.1 (by rw [hst]; simp)
   rw [hst] at e
   exact ⟨some c, _, e, hstop _ c pre _ (by omega) hSp ((hIx c).putObj _ hi lD hl.1 rfl) ((World.putObj_heap_other (by omega)).trans hl.2)⟩
end
end
section
attribute [local go_sem] Oper.semAt_some
attribute [local irreducible] Calls
instance zeroErr : xKf Tryz.prog 32 [.int .i64 0] := ⟨.int .i64 0, by kernel_rfl, rfl⟩
theorem pairs_any (pa pn : Option Addr) (len ca len2 cn : Nat) (w : World) :
  Calls Tryz.prog 184 #[.slice pa len ca, .slice pn len2 cn] w fun e w' => e = .returned (.func (.func 220) #[] #[.pointer (some ⟨w.heap.size, 0, none⟩), .pointer (some ⟨w.heap.size + 1, 0, none⟩)]) ∧
   w' = (w.alloc (.cells #[.slice pa len ca] 27)).alloc (.cells #[.slice pn len2 cn] 27) := by
 go_enter Tryz.func184, Tryz.ntmps184
 go_wp2
 go_ret
 exact ⟨by simp, rfl⟩
noncomputable def stepP : Nat → Nat → Pair → Nat := opq fun p r x => mulN r (powN x.1.1 x.1.2 p) p
theorem stepP_def (p r : Nat) (x : Pair) : stepP p r x = mulN r (powN x.1.1 x.1.2 p) p := by unfold stepP; rw [xBs]
noncomputable def xHt (p : Nat) (l : List Pair) : Nat := l.foldl (stepP p) 1
theorem xIa (p : Nat) (l : List Pair) (x : Pair) : xHt p (l ++ [x]) = stepP p (xHt p l) x := by
 unfold xHt; rw [List.foldl_append]; rfl
theorem prodL_lt {p : Nat} (h : 1 < p) (l : List Pair) : xHt p l < p := by
 rcases List.eq_nil_or_concat l with rfl | ⟨l, x, rfl⟩
 ·exact h
 ·rw [List.concat_eq_append, xIa, stepP_def]; exact xJk h _ _
def xGf (p : Nat) (l : List Pair) : Prop := ∀ x ∈ l, mayG p x.1.1
structure xKk (w : World) (pa : Option Addr) (len : Nat) (f : Nat → Nat) : Prop where
 at' : 0 < len → ∃ b o, pa = some ⟨b, o, none⟩ ∧ b < w.heap.size ∧ ∀ j, j < len → xDt w b (o + j * 4) (f j)
theorem xKg {α : Type} {B0 : Nat} {w0 : World} {L : List α → List (Nat × Obj)} {C : Nat} (hC : B0 ≤ C) (hL : ∀ pre p, p ∈ L pre → p.2.isCells = true) : OwnFrom C (fun pre W => Rep B0 w0 (L pre) W) := fun pre W W' row h hg hr =>
 h.grown hg fun r e => ⟨by have := (hr r e).1; omega, fun p hp ep => by
  obtain ⟨_, o, ho, hf⟩ := hr r e
  have h1 := (h.own p hp).2
  have h2 := hL pre p hp
  rw [ep, ho] at h1
  cases h1
  rw [hf] at h2
  cases h2⟩
theorem xDt.below {n b i a : Nat} {w W : World} (h : Below n w W) (lb : b < n) (hl : xDt w b i a) : xDt W b i a :=
 ⟨(h.cell (p := ⟨b, _, none⟩) lb).trans hl.1, (h.cell (p := ⟨b, _, none⟩) lb).trans hl.2.1, (h.cell (p := ⟨b, _, none⟩) lb).trans hl.2.2.1, (h.cell (p := ⟨b, _, none⟩) lb).trans hl.2.2.2⟩
noncomputable def slotsP (l : List Value) (x : Pair) (c9 c10 : Nat) : List Value := (((l.set 30 (num x.1.1)).set 31 (num x.1.2)).set 9 (.pointer (some ⟨c9, 0, none⟩))).set 10 (.pointer (some ⟨c10, 0, none⟩))
theorem zip_slots (l : List Value) (u v : Value) : ((#[30, 31] : Array Tmp).zip (#[u, v])).foldl (fun t (x : Tmp × Value) => t.setIfInBounds x.1 x.2) l.toArray = ((l.set 30 u).set 31 v).toArray := by simp
def roundPost (W : World) (B0 : Nat) (w0 : World) (L LX : List (Nat × Obj)) (M MX : Prop) : Exit → Act → World → Prop
 | .normal, _, W' => RK W B0 w0 L W' ∧ M
 | .ret, _, W' => RK W B0 w0 LX W' ∧ MX
 | _, _, _ => False
theorem range_pairs {Q : Exit → Act → World → Prop} {B0 : Nat} {w0 : World} {l : List Value} {w : World} {ac bc : Code} (zs : Nat → Pair) (Ba Bn ba bn oa on len ca cn : Nat) (pa pn : Option Addr) (LL : List Pair → List (Nat × Obj)) (M : List Pair → Prop) (LX : List (Nat × Obj)) (MX : List Pair → Prop)
  (hg : (Act.mk l.toArray []).eval (.tmp 29) = .func (.func 220) #[] #[.pointer (some ⟨Ba, 0, none⟩), .pointer (some ⟨Bn, 0, none⟩)])
  (hlen : len ≤ 1000000) (hpa : 0 < len → pa = some ⟨ba, oa, none⟩) (hpn : 0 < len → pn = some ⟨bn, on, none⟩) (hb : ∀ b ∈ [Ba, Bn, ba, bn], b < w.heap.size) (hBa : w.cell? ⟨Ba, 0, none⟩ = some (.slice pa len ca)) (hBn : w.cell? ⟨Bn, 0, none⟩ = some (.slice pn len cn))
  (hca : ∀ j, j < len → xDt w ba (oa + j * 4) (zs j).1.1) (hcn : ∀ j, j < len → xDt w bn (on + j * 4) (zs j).1.2)
  (hR : Rep B0 w0 (LL []) w) (hM : M []) (hL : ∀ pre p, p ∈ LL pre → p.2.isCells = true) (hLX : ∀ p, p ∈ LX → p.2.isCells = true)
  (hkeep : ∀ (L1 L2 : List (Nat × Obj)) (pre pre' : List Pair) (W W' : World), Rep B0 w0 (L1 ++ LL pre) W → Rep B0 w0 (L2 ++ LL pre') W' → keepS [Ba, Bn, ba, bn] W W')
  (hvars : ∀ (k : Nat) (pre : List Pair) (x : Pair) (W : World) (K : Act → World → Prop), RK W B0 w0 (LL pre) W → (∀ c9 c10 W', RK W B0 w0 ((c10, .cells (nl x.1.2).toArray 24) :: (c9, .cells (nl x.1.1).toArray 24) :: LL pre) W' → K ⟨(slotsP l x c9 c10).toArray, []⟩ W') →
   ac.wpIn (Fence.wide.inRound k) 3 Tryz.prog (Exit.then K (fun _ _ _ => False)) ⟨((l.set 30 (num x.1.1)).set 31 (num x.1.2)).toArray, []⟩ W)
  (hbody : ∀ (k : Nat) (pre : List Pair) (x : Pair) (c9 c10 : Nat) (W : World), RK W B0 w0 ((c10, .cells (nl x.1.2).toArray 24) :: (c9, .cells (nl x.1.1).toArray 24) :: LL pre) W → M pre →
   bc.wpIn (Fence.wide.inRound k) 3 Tryz.prog (roundPost W B0 w0 (LL (pre ++ [x])) LX (M (pre ++ [x])) (MX (pre ++ [x]))) ⟨(slotsP l x c9 c10).toArray, []⟩ W)
  (hdone : ∀ (D : Nat) (W : World), Rep B0 w0 ((D, .deferred (some [])) :: LL (up zs len)) W → M (up zs len) → Q .normal ⟨l.toArray, [{ target := .collected D, args := #[] }]⟩ W)
  (hstop : ∀ (D m : Nat) (W : World), m ≤ len → Rep B0 w0 ((D, .deferred (some [])) :: LX) W → MX (up zs m) → Q .ret ⟨l.toArray, [{ target := .collected D, args := #[] }]⟩ W) :
  (Code.rangeFunc (.tmp 29) #[30, 31] ac bc).wp Tryz.prog Q ⟨l.toArray, []⟩ w := by
 refine (wpIn_wide (n := 5)).1 ?_
 have own : ∀ (G : List Pair → List (Nat × Obj)) (N : List Pair → Prop), (∀ s p, p ∈ G s → p.2.isCells = true) → OwnFrom w.heap.size (fun s W => Rep B0 w0 (G s) W ∧ N s) := fun G N hG =>
  fun s W W' row h hg hr => ⟨xKg hR.le hG s W W' row h.1 hg hr, h.2⟩
 have notIn : ∀ {L : List (Nat × Obj)} {D : Nat} {W : World}, (∀ p, p ∈ L → p.2.isCells = true) → Rep B0 w0 L W → W.heap[D]? = some (.deferred (some [])) → ∀ p, p ∈ L → p.1 ≠ D := fun hG h hD p hp e => by
  have h1 := (h.own p hp).2
  have h2 := hG p hp
  rw [e, hD] at h1
  rw [← Option.some.inj h1] at h2
  cases h2
 refine xEe rfl (by decide) (gf := 220) (lb := #[.pointer (some ⟨Ba, 0, none⟩), .pointer (some ⟨Bn, 0, none⟩)]) hg trivial (fun args w => xAi Tryz.func220 (by kernel_rfl) (by kernel_rfl) args w)
  (pairs_stops Fence.wide 4 trivial rfl (by decide) Ba Bn ba bn oa on len ca cn pa pn zs hlen hpa hpn w hb hBa hBn hca hcn) keepS_t (keepS_b hb) (fun _ => rfl)
  (fun pre W => Rep B0 w0 (LL pre) W ∧ M pre) (fun pre x b W => ∃ c : Nat × Nat, b = ⟨(slotsP l x c.1 c.2).toArray, []⟩ ∧ Rep B0 w0 ((c.2, .cells (nl x.1.2).toArray 24) :: (c.1, .cells (nl x.1.1).toArray 24) :: LL pre) W ∧ M pre) (fun c pre W => Rep B0 w0 LX W ∧ (c = .ret ∧ MX pre))
  (own LL M hL) (fun x b => ?own1) (fun c => own (fun _ => LX) (fun pre => c = .ret ∧ MX pre) (fun _ => hLX)) ⟨hR, hM⟩ ?vars ?body ?done ?stop
 case own1 =>
  rintro pre W W' row ⟨c, hc, h, hm⟩ hg hr
  exact ⟨c, hc, (xKg (L := fun (_ : List Pair) => (c.2, Obj.cells (nl x.1.2).toArray 24) :: (c.1, Obj.cells (nl x.1.1).toArray 24) :: LL pre) hR.le (fun _ p hp => by
   rcases List.mem_cons.1 hp with rfl | hp
   ·rfl
   ·rcases List.mem_cons.1 hp with rfl | hp
    ·rfl
    ·exact hL pre p hp)) [] W W' row h hg hr, hm⟩
 case vars =>
  rintro k pre x W K ⟨hw, hm⟩ hl hK
  rw [zip_slots]
  refine hvars k pre x W K ⟨hw, KeepsOthers.refl W⟩ fun c9 c10 W' hw' => ?_
  exact hK _ W' hw'.kept (hkeep [] [_, _] pre pre W W' hw hw'.rep) ⟨(c9, c10), rfl, hw'.rep, hm⟩
 case body =>
  rintro k pre x b W ⟨⟨c9, c10⟩, rfl, hw, hm⟩
  refine wpIn_mono (hbody k pre x c9 c10 W ⟨hw, KeepsOthers.refl W⟩ hm) ?_
  rintro e a' W' hp
  cases e with
  | normal => exact ⟨hp.1.kept, hkeep [_, _] [] pre _ W W' hw hp.1.rep, hp.1.rep, hp.2⟩
  | ret => exact ⟨hp.1.kept, hp.1.rep, rfl, hp.2⟩
  | exit id => exact hp.elim
  | goto t => exact hp.elim
  | panic ch => exact hp.elim
  | outgrown => exact hp.elim
 case done =>
  rintro D ys W hle rfl ⟨hw, hm⟩ hD
  have := hR.le
  exact hdone D W (hw.add (by omega) hD (notIn (hL _) hw hD)) hm
 case stop =>
  rintro D c pre W hle ⟨m, hm, rfl⟩ ⟨hw, rfl, hx⟩ hD
  have := hR.le
  exact wpIn_ret (hstop D m W hm (hw.add (by omega) hD (notIn hLX hw hD)) hx)
section
variable {p q g h : Nat}
theorem product_bad {len len2 : Nat} (hp : p < B) (hbad : ¬ 1 < p ∨ (1 < p ∧ len ≠ len2)) (pa pn : Option Addr) (ca cn : Nat) (h1 : len ≤ 1000000) (h2 : len2 ≤ 1000000) (w : World) : Calls Tryz.prog 111 #[grp p q g h, .slice pa len ca, .slice pn len2 cn] w fun e' w' =>
  e' = .returned (.tuple #[num 0, .int .i64 1]) ∧ Below w.heap.size w w' := by
 have tp := gl_p p q g h
 obtain ⟨n1, hn1⟩ : ∃ n, n = 1 := ⟨_, rfl⟩
 have o1 : ∀ w, Calls Tryz.prog 171 #[.int .u64 1] w fun e w' => e = .returned (num n1) ∧ Below w.heap.size w w' := fun w => by
  rw [hn1]; exact xFh 1 (by decide) w
 have L1 : n1 < B := lt_B (by omega)
 have c1 := xDg hp L1 rfl
 have k1 := xHi p n1
 have hR := Rep.init w
 rcases hbad with hb | ⟨hb, hb2⟩
 ·have j1 : cmpN p n1 ≤ 0 := k1.mpr (by have := hn1; omega)
  generalize cmpN p n1 = x1 at *
  clear k1 hn1 L1 hb
  go_enter Tryz.func111, Tryz.ntmps111
  go_wp2_with (first | (refine' aAq hR ?_; clear hR; intro blk w hR) | (refine' aBq hR ?_; clear hR; intro blk w hR) | (refine' aEq hR ?_) | (refine' aQq hR ?_) | (refine' aFq hR ?_; clear hR; intro w hR) | (refine' aHq hR ?_; clear hR; intro w hR) | (go_at_call 171; refine (o1 _).mono ?_; rintro e w ⟨rfl, hb⟩; replace hR := hR.call hb; clear hb) | (go_at_call 183; refine (c1 _).mono ?_; rintro e w ⟨rfl, hb⟩; replace hR := hR.call hb; clear hb))
  (refine' bodyPost_ret (xEn Tryz.results111 rfl (hR.loadAll (P := Tryz.prog) (ty := 24) ?hm ?hn) rfl (hR.loadCell (P := Tryz.prog) (ty := 32) ?hm2 ?hn2)) rfl ⟨?_, hR.below⟩; (case hm => exact .tail _ (.tail _ (.head _))); (case hn => rfl); (case hm2 => exact .tail _ (.head _)); (case hn2 => rfl))
  rw [xBe]
 ·have j1 : ¬ cmpN p n1 ≤ 0 := fun h => by have := k1.mp h; omega
  have j2 : ((len : Int) == (len2 : Int)) = false := by simp; omega
  have j3 : ¬ (len : Int) = (len2 : Int) := by omega
  have j4 : ((len : Int) != (len2 : Int)) = true := by simp; omega
  generalize cmpN p n1 = x1 at *
  clear k1 hn1 L1 hb
  go_enter Tryz.func111, Tryz.ntmps111
  go_wp2_with (first | (refine' aAq hR ?_; clear hR; intro blk w hR) | (refine' aBq hR ?_; clear hR; intro blk w hR) | (refine' aEq hR ?_) | (refine' aQq hR ?_) | (refine' aFq hR ?_; clear hR; intro w hR) | (refine' aHq hR ?_; clear hR; intro w hR) | (go_at_call 171; refine (o1 _).mono ?_; rintro e w ⟨rfl, hb⟩; replace hR := hR.call hb; clear hb) | (go_at_call 183; refine (c1 _).mono ?_; rintro e w ⟨rfl, hb⟩; replace hR := hR.call hb; clear hb))
  (refine' bodyPost_ret (xEn Tryz.results111 rfl (hR.loadAll (P := Tryz.prog) (ty := 24) ?hm ?hn) rfl (hR.loadCell (P := Tryz.prog) (ty := 32) ?hm2 ?hn2)) rfl ⟨?_, hR.below⟩; (case hm => exact .tail _ (.tail _ (.head _))); (case hn => rfl); (case hm2 => exact .tail _ (.head _)); (case hn2 => rfl))
  rw [xBe]
theorem xKk.seen {ws W : World} {pa : Option Addr} {len : Nat} {f : Nat → Nat} (hA : xKk ws pa len f) (Ba : Nat) (h : Below ws.heap.size ws W) : ∃ ba oa, (ba = Ba ∨ ba < ws.heap.size) ∧ (0 < len → pa = some ⟨ba, oa, none⟩) ∧ ∀ j, j < len → xDt W ba (oa + j * 4) (f j) := by
 rcases Nat.eq_zero_or_pos len with h0 | h0
 ·exact ⟨Ba, 0, .inl rfl, fun h' => absurd h' (by omega), fun j hj => absurd hj (by omega)⟩
 ·obtain ⟨b, o, e, lb, hl⟩ := hA.at' h0
  exact ⟨b, o, .inr lb, fun _ => e, fun j hj => (hl j hj).below h lb⟩
theorem xJu {p : Nat} {l : List Pair} {x : Pair} (h : xGf p l) (hx : mayG p x.1.1) : xGf p (l ++ [x]) := fun y hy => by
 rcases List.mem_append.1 hy with hy | hy
 ·exact h y hy
 ·rw [List.mem_singleton.1 hy]; exact hx
theorem up_mono {zs : Nat → Pair} {m len : Nat} (h : m ≤ len) {x : Pair} (hx : x ∈ up zs m) : x ∈ up zs len := by
 unfold up at *
 obtain ⟨k, hk, rfl⟩ := List.mem_map.1 hx
 exact List.mem_map.2 ⟨k, List.mem_range.2 (by have := List.mem_range.1 hk; omega), rfl⟩
theorem product_go (hp : p < B) (hq : q < B) (h1 : 1 < p) (pa pn : Option Addr) (len ca cn : Nat) (zs : Nat → Pair) (hlen : len ≤ 1000000) (ws : World) (hA : xKk ws pa len fun j => (zs j).1.1) (hN : xKk ws pn len fun j => (zs j).1.2) : Calls Tryz.prog 111 #[grp p q g h, .slice pa len ca, .slice pn len cn] ws fun e' w' =>
  ((xGf p (up zs len) ∧ e' = .returned (.tuple #[num (xHt p (up zs len)), .int .i64 0])) ∨ (¬ xGf p (up zs len) ∧ e' = .returned (.tuple #[num 0, .int .i64 1]))) ∧ Below ws.heap.size ws w' := by
 have tp := gl_p p q g h
 obtain ⟨n1, hn1⟩ : ∃ n, n = 1 := ⟨_, rfl⟩
 have o1 : ∀ w, Calls Tryz.prog 171 #[.int .u64 1] w fun e w' => e = .returned (num n1) ∧ Below w.heap.size w w' := fun w => by
  rw [hn1]; exact xFh 1 (by decide) w
 have L1 : n1 < B := lt_B (by omega)
 have c1 := xDg hp L1 rfl
 have k1 := xHi p n1
 have j1 : ¬ cmpN p n1 ≤ 0 := fun h => by have := k1.mp h; omega
 generalize cmpN p n1 = x1 at *
 clear k1 L1
 replace hA := Held.mk hA
 replace hN := Held.mk hN
 have ep : xHt p [] = n1 := by rw [hn1]; rfl
 replace ep := Held.mk ep
 clear hn1
 have hR := Rep.init ws
 refine (callsIn_wide (n := 5)).1 ?_
 refine callsIn_of_wp_marks Tryz.func111 rfl trivial ?_ rfl
 simp only [Tryz.ntmps111, List.size_toArray, List.length_cons, List.length_nil, Nat.reduceAdd, Nat.reduceSub, Array.replicate_succ, Array.replicate_zero, List.push_toArray, List.append_toArray, List.nil_append, List.cons_append]
 refine wpIn_wide.2 ?_
 go_wp2_with (first | (refine' aAq hR ?_; clear hR; intro blk w hR) | (refine' aBq hR ?_; clear hR; intro blk w hR) | (refine' aEq hR ?_) | (refine' aQq hR ?_) | (refine' aFq hR ?_; clear hR; intro w hR) | (go_at_call 171; refine (o1 _).mono ?_; rintro e w ⟨rfl, hb⟩; replace hR := hR.call hb; clear hb) | (go_at_call 183; refine (c1 _).mono ?_; rintro e w ⟨rfl, hb⟩; replace hR := hR.call hb; clear hb) | (go_at_call 184; refine (pairs_any _ _ _ _ _ _ _).mono ?_; rintro e w1 ⟨rfl, rfl⟩; have hBox := (hR.alloc (.cells (List.toArray [Value.slice pa len ca]) 27)).alloc (.cells (List.toArray [Value.slice pn len cn]) 27); clear hR))
 clear o1 c1 j1
 (first | (rename_i b7; change Nat at b7) | (rename_i b7 _; change Nat at b7) | (rename_i b7 _ _; change Nat at b7) | (rename_i b7 _ _ _; change Nat at b7) | (rename_i b7 _ _ _ _; change Nat at b7) | (rename_i b7 _ _ _ _ _; change Nat at b7) | (rename_i b7 _ _ _ _ _ _; change Nat at b7) | (rename_i b7 _ _ _ _ _ _ _; change Nat at b7) | (rename_i b7 _ _ _ _ _ _ _ _; change Nat at b7) | (rename_i b7 _ _ _ _ _ _ _ _ _; change Nat at b7) | (rename_i b7 _ _ _ _ _ _ _ _ _ _; change Nat at b7) | (rename_i b7 _ _ _ _ _ _ _ _ _ _ _; change Nat at b7) | (rename_i b7 _ _ _ _ _ _ _ _ _ _ _ _; change Nat at b7) | (rename_i b7 _ _ _ _ _ _ _ _ _ _ _ _ _; change Nat at b7) | (rename_i b7 _ _ _ _ _ _ _ _ _ _ _ _ _ _; change Nat at b7) | (rename_i b7 _ _ _ _ _ _ _ _ _ _ _ _ _ _ _; change Nat at b7) | (rename_i b7 _ _ _ _ _ _ _ _ _ _ _ _ _ _ _ _; change Nat at b7) | (rename_i b7 _ _ _ _ _ _ _ _ _ _ _ _ _ _ _ _ _; change Nat at b7) | (rename_i b7 _ _ _ _ _ _ _ _ _ _ _ _ _ _ _ _ _ _; change Nat at b7) | (rename_i b7 _ _ _ _ _ _ _ _ _ _ _ _ _ _ _ _ _ _ _; change Nat at b7) | (rename_i b7 _ _ _ _ _ _ _ _ _ _ _ _ _ _ _ _ _ _ _ _; change Nat at b7) | (rename_i b7 _ _ _ _ _ _ _ _ _ _ _ _ _ _ _ _ _ _ _ _ _; change Nat at b7) | (rename_i b7 _ _ _ _ _ _ _ _ _ _ _ _ _ _ _ _ _ _ _ _ _ _; change Nat at b7) | (rename_i b7 _ _ _ _ _ _ _ _ _ _ _ _ _ _ _ _ _ _ _ _ _ _ _; change Nat at b7) | (rename_i b7 _ _ _ _ _ _ _ _ _ _ _ _ _ _ _ _ _ _ _ _ _ _ _ _; change Nat at b7) | (rename_i b7 _ _ _ _ _ _ _ _ _ _ _ _ _ _ _ _ _ _ _ _ _ _ _ _ _; change Nat at b7) | (rename_i b7 _ _ _ _ _ _ _ _ _ _ _ _ _ _ _ _ _ _ _ _ _ _ _ _ _ _; change Nat at b7) | (rename_i b7 _ _ _ _ _ _ _ _ _ _ _ _ _ _ _ _ _ _ _ _ _ _ _ _ _ _ _; change Nat at b7) | (rename_i b7 _ _ _ _ _ _ _ _ _ _ _ _ _ _ _ _ _ _ _ _ _ _ _ _ _ _ _ _; change Nat at b7) | (rename_i b7 _ _ _ _ _ _ _ _ _ _ _ _ _ _ _ _ _ _ _ _ _ _ _ _ _ _ _ _ _; change Nat at b7))
 (first | (rename_i b6; change Nat at b6) | (rename_i b6 _; change Nat at b6) | (rename_i b6 _ _; change Nat at b6) | (rename_i b6 _ _ _; change Nat at b6) | (rename_i b6 _ _ _ _; change Nat at b6) | (rename_i b6 _ _ _ _ _; change Nat at b6) | (rename_i b6 _ _ _ _ _ _; change Nat at b6) | (rename_i b6 _ _ _ _ _ _ _; change Nat at b6) | (rename_i b6 _ _ _ _ _ _ _ _; change Nat at b6) | (rename_i b6 _ _ _ _ _ _ _ _ _; change Nat at b6) | (rename_i b6 _ _ _ _ _ _ _ _ _ _; change Nat at b6) | (rename_i b6 _ _ _ _ _ _ _ _ _ _ _; change Nat at b6) | (rename_i b6 _ _ _ _ _ _ _ _ _ _ _ _; change Nat at b6) | (rename_i b6 _ _ _ _ _ _ _ _ _ _ _ _ _; change Nat at b6) | (rename_i b6 _ _ _ _ _ _ _ _ _ _ _ _ _ _; change Nat at b6) | (rename_i b6 _ _ _ _ _ _ _ _ _ _ _ _ _ _ _; change Nat at b6) | (rename_i b6 _ _ _ _ _ _ _ _ _ _ _ _ _ _ _ _; change Nat at b6) | (rename_i b6 _ _ _ _ _ _ _ _ _ _ _ _ _ _ _ _ _; change Nat at b6) | (rename_i b6 _ _ _ _ _ _ _ _ _ _ _ _ _ _ _ _ _ _; change Nat at b6) | (rename_i b6 _ _ _ _ _ _ _ _ _ _ _ _ _ _ _ _ _ _ _; change Nat at b6) | (rename_i b6 _ _ _ _ _ _ _ _ _ _ _ _ _ _ _ _ _ _ _ _; change Nat at b6) | (rename_i b6 _ _ _ _ _ _ _ _ _ _ _ _ _ _ _ _ _ _ _ _ _; change Nat at b6) | (rename_i b6 _ _ _ _ _ _ _ _ _ _ _ _ _ _ _ _ _ _ _ _ _ _; change Nat at b6) | (rename_i b6 _ _ _ _ _ _ _ _ _ _ _ _ _ _ _ _ _ _ _ _ _ _ _; change Nat at b6) | (rename_i b6 _ _ _ _ _ _ _ _ _ _ _ _ _ _ _ _ _ _ _ _ _ _ _ _; change Nat at b6) | (rename_i b6 _ _ _ _ _ _ _ _ _ _ _ _ _ _ _ _ _ _ _ _ _ _ _ _ _; change Nat at b6) | (rename_i b6 _ _ _ _ _ _ _ _ _ _ _ _ _ _ _ _ _ _ _ _ _ _ _ _ _ _; change Nat at b6) | (rename_i b6 _ _ _ _ _ _ _ _ _ _ _ _ _ _ _ _ _ _ _ _ _ _ _ _ _ _ _; change Nat at b6) | (rename_i b6 _ _ _ _ _ _ _ _ _ _ _ _ _ _ _ _ _ _ _ _ _ _ _ _ _ _ _ _; change Nat at b6) | (rename_i b6 _ _ _ _ _ _ _ _ _ _ _ _ _ _ _ _ _ _ _ _ _ _ _ _ _ _ _ _ _; change Nat at b6))
 (first | (rename_i bg; change Nat at bg) | (rename_i bg _; change Nat at bg) | (rename_i bg _ _; change Nat at bg) | (rename_i bg _ _ _; change Nat at bg) | (rename_i bg _ _ _ _; change Nat at bg) | (rename_i bg _ _ _ _ _; change Nat at bg) | (rename_i bg _ _ _ _ _ _; change Nat at bg) | (rename_i bg _ _ _ _ _ _ _; change Nat at bg) | (rename_i bg _ _ _ _ _ _ _ _; change Nat at bg) | (rename_i bg _ _ _ _ _ _ _ _ _; change Nat at bg) | (rename_i bg _ _ _ _ _ _ _ _ _ _; change Nat at bg) | (rename_i bg _ _ _ _ _ _ _ _ _ _ _; change Nat at bg) | (rename_i bg _ _ _ _ _ _ _ _ _ _ _ _; change Nat at bg) | (rename_i bg _ _ _ _ _ _ _ _ _ _ _ _ _; change Nat at bg) | (rename_i bg _ _ _ _ _ _ _ _ _ _ _ _ _ _; change Nat at bg) | (rename_i bg _ _ _ _ _ _ _ _ _ _ _ _ _ _ _; change Nat at bg) | (rename_i bg _ _ _ _ _ _ _ _ _ _ _ _ _ _ _ _; change Nat at bg) | (rename_i bg _ _ _ _ _ _ _ _ _ _ _ _ _ _ _ _ _; change Nat at bg) | (rename_i bg _ _ _ _ _ _ _ _ _ _ _ _ _ _ _ _ _ _; change Nat at bg) | (rename_i bg _ _ _ _ _ _ _ _ _ _ _ _ _ _ _ _ _ _ _; change Nat at bg) | (rename_i bg _ _ _ _ _ _ _ _ _ _ _ _ _ _ _ _ _ _ _ _; change Nat at bg) | (rename_i bg _ _ _ _ _ _ _ _ _ _ _ _ _ _ _ _ _ _ _ _ _; change Nat at bg) | (rename_i bg _ _ _ _ _ _ _ _ _ _ _ _ _ _ _ _ _ _ _ _ _ _; change Nat at bg) | (rename_i bg _ _ _ _ _ _ _ _ _ _ _ _ _ _ _ _ _ _ _ _ _ _ _; change Nat at bg) | (rename_i bg _ _ _ _ _ _ _ _ _ _ _ _ _ _ _ _ _ _ _ _ _ _ _ _; change Nat at bg) | (rename_i bg _ _ _ _ _ _ _ _ _ _ _ _ _ _ _ _ _ _ _ _ _ _ _ _ _; change Nat at bg) | (rename_i bg _ _ _ _ _ _ _ _ _ _ _ _ _ _ _ _ _ _ _ _ _ _ _ _ _ _; change Nat at bg) | (rename_i bg _ _ _ _ _ _ _ _ _ _ _ _ _ _ _ _ _ _ _ _ _ _ _ _ _ _ _; change Nat at bg) | (rename_i bg _ _ _ _ _ _ _ _ _ _ _ _ _ _ _ _ _ _ _ _ _ _ _ _ _ _ _ _; change Nat at bg) | (rename_i bg _ _ _ _ _ _ _ _ _ _ _ _ _ _ _ _ _ _ _ _ _ _ _ _ _ _ _ _ _; change Nat at bg))
 have eB : (w.alloc (.cells (List.toArray [Value.slice pa len ca]) 27)).heap.size = w.heap.size + 1 := by simp
 rw [eB] at hBox
 obtain ⟨Ba, hBa⟩ : ∃ x, w.heap.size = x := ⟨_, rfl⟩
 rw [hBa] at hBox ⊢
 generalize (w.alloc (.cells (List.toArray [Value.slice pa len ca]) 27)).alloc (.cells (List.toArray [Value.slice pn len cn]) 27) = W1 at hBox ⊢
 clear hBa eB
 obtain ⟨ba, oa, lba, hpa, hca⟩ := hA.out.seen Ba hBox.below
 obtain ⟨bn, on, lbn, hpn, hcn⟩ := hN.out.seen (Ba + 1) hBox.below
 have lB := hBox.lt (.tail _ (.head _))
 have lB1 := hBox.lt (.head _)
 have hsz := hBox.le
 refine range_pairs (B0 := ws.heap.size) (w0 := ws) zs Ba (Ba + 1) ba bn oa on len ca cn pa pn (fun pre => [(Ba + 1, Obj.cells (List.toArray [Value.slice pn len cn]) 27), (Ba, Obj.cells (List.toArray [Value.slice pa len ca]) 27), (blk, Obj.cells (nl (xHt p pre)).toArray 24), (b7, Obj.cells (List.toArray [Value.int .i64 0]) 32), (b6, Obj.cells (List.toArray [Value.int .u64 0, .int .u64 0, .int .u64 0, .int .u64 0]) 24), (bg, Obj.cells (gl p q g h).toArray 26)]) (xGf p)
  [(b7, Obj.cells (List.toArray [Value.int .i64 1]) 32), (b6, Obj.cells (List.toArray [Value.int .u64 0, .int .u64 0, .int .u64 0, .int .u64 0]) 24), (bg, Obj.cells (gl p q g h).toArray 26)] (fun pre => ∃ x ∈ pre, ¬ mayG p x.1.1) rfl hlen hpa hpn ?hb (hBox.cell (off := 0) (.tail _ (.head _)) rfl) (hBox.cell (off := 0) (.head _) rfl) hca hcn ?hR (fun x hx => absurd hx List.not_mem_nil) ?hL ?hLX ?hkeep ?hvars ?hbody ?hdone ?hstop
 case hb =>
  intro b hb
  simp only [List.mem_cons, List.not_mem_nil, or_false] at hb
  simp only at lB lB1
  rcases hb with rfl | rfl | rfl | rfl
  ·exact lB
  ·exact lB1
  ·rcases lba with rfl | h
   ·exact lB
   ·omega
  ·rcases lbn with rfl | h
   ·exact lB1
   ·omega
 case hR =>
  show Rep _ _ [_, _, (_, .cells (nl (xHt p [])).toArray _), _, _, _] _
  rw [ep.out]
  exact hBox
 case hL =>
  intro pre x hx
  simp only [List.mem_cons, List.not_mem_nil, or_false] at hx
  rcases hx with rfl | rfl | rfl | rfl | rfl | rfl <;> rfl
 case hLX =>
  intro x hx
  simp only [List.mem_cons, List.not_mem_nil, or_false] at hx
  rcases hx with rfl | rfl | rfl <;> rfl
 case hkeep =>
  intro L1 L2 pre pre' W W' hw hw' pt hpt
  refine World.cell?_of_block ?_
  have kA : W'.heap[Ba]? = W.heap[Ba]? := (hw'.own (Ba, _) (List.mem_append_right _ (.tail _ (.head _)))).2.trans (hw.own (Ba, _) (List.mem_append_right _ (.tail _ (.head _)))).2.symm
  have kN : W'.heap[Ba + 1]? = W.heap[Ba + 1]? := (hw'.own (Ba + 1, _) (List.mem_append_right _ (.head _))).2.trans (hw.own (Ba + 1, _) (List.mem_append_right _ (.head _))).2.symm
  have kO : ∀ b, b < ws.heap.size → W'.heap[b]? = W.heap[b]? := fun b hb => (hw'.below.block b hb).trans (hw.below.block b hb).symm
  simp only [List.mem_cons, List.not_mem_nil, or_false] at hpt
  rcases hpt with e | e | e | e <;> rw [e]
  ·exact kA
  ·exact kN
  ·rcases lba with rfl | h
   ·exact kA
   ·exact kO _ h
  ·rcases lbn with rfl | h
   ·exact kN
   ·exact kO _ h
 case hvars =>
  clear hBox hca hcn lB lB1 hsz lba lbn hpa hpn
  intro k pre x W K hR hK
  replace hK := Held.mk hK
  simp only [List.set_cons_succ, List.set_cons_zero]
  gi_wp2_with (first | (refine' xKm hR rfl rfl inferInstance ?_; clear hR; intro blk w hR) | (refine' xFr hR rfl rfl rfl inferInstance rfl ?hs ?zone ?zvn ?hn ?_; (case hs => repeat (first | exact xBq.head | apply xBq.tail)); (case zone => first | rfl | with_reducible assumption); (case zvn => first | rfl | simp); (case hn => first | rfl | simp); clear hR; intro w hR))
  exact hK.out _ _ _ hR
 case hbody =>
  clear hBox hca hcn lB lB1 hsz lba lbn hpa hpn
  intro k pre x c9 c10 W hR hM
  unfold slotsP
  simp only [List.set_cons_succ, List.set_cons_zero]
  have hn1' : 1 ≤ 5 - 1 - 1 := by decide
  have lpre := prodL_lt h1 pre
  obtain ⟨P0, hP0⟩ : ∃ P0, xHt p pre = P0 := ⟨_, rfl⟩
  by_cases hx : mayG p x.1.1
  ·obtain ⟨X, hX⟩ : ∃ X, powN x.1.1 x.1.2 p = X := ⟨_, rfl⟩
   have lX : X < p := by rw [← hX]; exact pow_lt' h1 _ _
   have e1 := gexp_lit (q := q) (g := g) (h := h) (r := X) (e := 0) hp x.2.1 x.2.2 (by rw [if_pos hx, hX]) (if_pos hx)
   obtain ⟨P1, hP1⟩ : ∃ P1, xHt p (pre ++ [x]) = P1 := ⟨_, rfl⟩
   have m1 := mmul_lit (a := P0) (b := X) (m := p) (r := P1) (e := 0) (by omega) (by omega) hp (by rw [if_pos ⟨h1, by omega, lX⟩, ← hP1, xIa, stepP_def, hX, hP0]) (if_pos ⟨h1, by omega, lX⟩)
   rw [hP0] at hR
   have hfin : xGf p (pre ++ [x]) := xJu hM hx
   rw [hP1]
   replace hfin := Held.mk hfin
   clear hP0 hP1 hX lX lpre hM hx
   gi_wp2_with (first | (refine' xKm hR rfl rfl inferInstance ?_; clear hR; intro blk w hR) | (refine' in_loadAll hR rfl rfl rfl inferInstance ?hm ?hn ?_; (case hm => first | with_reducible assumption | repeat (first | exact .head _ | apply mT)); (case hn => first | rfl | simp)) | (refine' in_loadRow hR rfl rfl rfl inferInstance ?hm ?hv ?hn ?_; (case hm => first | with_reducible assumption | repeat (first | exact .head _ | apply mT)); (case hv => first | with_reducible assumption | (simp only [kC, kD, kE, kF]; try rfl)); (case hn => first | rfl | simp)) | (refine' xFr hR rfl rfl rfl inferInstance rfl ?hs ?zone ?zvn ?hn ?_; (case hs => repeat (first | exact xBq.head | apply xBq.tail)); (case zone => first | rfl | with_reducible assumption); (case zvn => first | rfl | simp); (case hn => first | rfl | simp); clear hR; intro w hR) | (refine ⟨trivial, ?_⟩; gi_at_call 110; refine (CallsIn.inRound k (callsIn_wide.2 (e1 _))).mono ?_; rintro e W2 ⟨rfl, hb⟩; replace hR := hR.call hb; clear hb) | (refine ⟨trivial, ?_⟩; gi_at_call 177; refine (CallsIn.inRound k (callsIn_wide.2 (m1 _))).mono ?_; rintro e W2 ⟨rfl, hb⟩; replace hR := hR.call hb; clear hb))
   exact ⟨hR.weaken (List.sublist_append_right [_, _, _] _), hfin.out⟩
  ·have e1 := gexp_lit (q := q) (g := g) (h := h) (r := 0) (e := 1) hp x.2.1 x.2.2 (by rw [if_neg hx]) (if_neg hx)
   rw [z_num] at e1
   rw [hP0] at hR
   have hfin : ∃ y ∈ pre ++ [x], ¬ mayG p y.1.1 := ⟨x, by simp, hx⟩
   replace hfin := Held.mk hfin
   clear hP0 lpre hM hx
   gi_wp2_with (first | (refine' xKm hR rfl rfl inferInstance ?_; clear hR; intro blk w hR) | (refine' in_loadAll hR rfl rfl rfl inferInstance ?hm ?hn ?_; (case hm => first | with_reducible assumption | repeat (first | exact .head _ | apply mT)); (case hn => first | rfl | simp)) | (refine' xFr hR rfl rfl rfl inferInstance rfl ?hs ?zone ?zvn ?hn ?_; (case hs => repeat (first | exact xBq.head | apply xBq.tail)); (case zone => first | rfl | with_reducible assumption); (case zvn => first | rfl | simp); (case hn => first | rfl | simp); clear hR; intro w hR) | (refine' in_storeCell hR rfl rfl rfl inferInstance rfl rfl ?hs ?hn ?hl ?_; (case hs => repeat (first | exact xBq.head | apply xBq.tail)); (case hn => first | exact oD rfl | (simp; try omega)); (case hl => rfl); clear hR; intro w hR) | (refine ⟨trivial, ?_⟩; gi_at_call 110; refine (CallsIn.inRound k (callsIn_wide.2 (e1 _))).mono ?_; rintro e W2 ⟨rfl, hb⟩; replace hR := hR.call hb; clear hb))
   exact ⟨hR.weaken (List.sublist_append_right [_, _, _, _, _, _] _), hfin.out⟩
 case hdone =>
  clear hBox hca hcn lB lB1 hsz lba lbn hpa hpn
  intro D W hR hM
  go_wp2_with (first | (refine' aEq hR ?_) | (refine' aFq hR ?_; clear hR; intro w hR) | (refine' aHq hR ?_; clear hR; intro w hR))
  refine ⟨by simp, .inl ⟨_, _, rfl, run_takeDeferred (hR.own _ (List.Mem.head _)).2, ?_⟩⟩
  have hR3 := hR.putHead (.deferred none)
  (refine' ⟨_, xEn Tryz.results111 rfl (hR3.loadAll (P := Tryz.prog) (ty := 24) ?hm ?hn) rfl (hR3.loadCell (P := Tryz.prog) (ty := 32) ?hm2 ?hn2), ?_, hR3.below⟩; (case hm => repeat (first | exact .head _ | apply mT)); (case hn => rfl); (case hm2 => repeat (first | exact .head _ | apply mT)); (case hn2 => rfl))
  exact .inl ⟨hM, rfl⟩
 case hstop =>
  clear hBox hca hcn lB lB1 hsz lba lbn hpa hpn
  rintro D m W hm hR ⟨x, hx, hno⟩
  have hfin : ¬ xGf p (up zs len) := fun h => hno (h x (up_mono hm hx))
  try simp only [Exit.then]
  refine ⟨by simp, .inl ⟨_, _, rfl, run_takeDeferred (hR.own _ (List.Mem.head _)).2, ?_⟩⟩
  have hR3 := hR.putHead (.deferred none)
  (refine' ⟨_, xEn Tryz.results111 rfl (hR3.loadAll (P := Tryz.prog) (ty := 24) ?hm ?hn) rfl (hR3.loadCell (P := Tryz.prog) (ty := 32) ?hm2 ?hn2), ?_, hR3.below⟩; (case hm => repeat (first | exact .head _ | apply mT)); (case hn => rfl); (case hm2 => repeat (first | exact .head _ | apply mT)); (case hn2 => rfl))
  exact .inr ⟨hfin, by rw [← xBe]⟩
end
end
section
theorem xBw (bb off j : Nat) : ((⟨bb, off, none⟩ : Addr).add j) = ⟨bb, off + j, none⟩ := by
 unfold Addr.add; split <;> simp_all
theorem lies_of {w : World} {b i a : Nat} (h : ∀ k, k < 4 → w.cell? ⟨b, i + k, none⟩ = (nl a)[k]?) : xDt w b i a :=
 ⟨by have := h 0 (by decide); exact this, by have := h 1 (by decide); exact this, by have := h 2 (by decide); exact this, by have := h 3 (by decide); exact this⟩
end
section
attribute [local irreducible] Calls
end
section
attribute [local irreducible] Calls
instance zeroRsn : xKf Tryz.prog 145 [.int .u64 0, .int .u64 0, .int .u64 0, .int .u64 0, .int .u64 0, .int .u64 0, .int .u64 0, .int .u64 0, .slice none 0 0] := ⟨.agg (List.toArray [.int .u64 0, .int .u64 0, .int .u64 0, .int .u64 0, .int .u64 0, .int .u64 0, .int .u64 0, .int .u64 0, .slice none 0 0]), by kernel_rfl, rfl⟩
theorem xJn (a : Nat) (w : World) : (Instr.buildSlice 27 1 #[(0, num a)]).run Tryz.prog w = .ok (.slice (some ⟨w.heap.size, 0, none⟩) 1 1) (w.alloc (.cells (nl a).toArray 24)) := by
 unfold num nl
 go_simp
theorem xBv {o : Oper} {a : Act} {x : Operand} {m : Nat} (hg : o.guard = none) (hop : o.op = .buildSlice 27 1 #[(0, x)]) (hx : ev a x = some (num m)) : IsNew Tryz.prog o a (.cells (nl m).toArray 24) (fun b => .slice (some ⟨b, 0, none⟩) 1 1) :=
 ⟨hg, fun w => by
  unfold execOp
  simp only [hop, List.map_toArray, List.map_cons, List.map_nil, xAw hx, xJn m w, Sem.run_bind, Result.andThen_ok, Sem.run_pure]⟩
end
section
section
variable {P : Program} {w w0 : World} {B0 : Nat} {L : List (Nat × Obj)}
theorem Rep.growN {w' : World} {row : Option Nat} (h : Rep B0 w0 L w) (hg : w.grownBy w' row) (hr : ∀ r, row = some r → B0 ≤ r ∧ ∀ p, p ∈ L → p.1 ≠ r) : Rep B0 w0 L w' :=
 ⟨h.below.grown hg h.le (fun k hk => (hr k hk).1), by have := hg.size; have := h.le; omega, fun p hp => ⟨(h.own p hp).1, by
  have hp1 := (h.own p hp).2
  have hlt : p.1 < w.heap.size := (Array.getElem?_eq_some_iff.1 hp1).1
  rw [hg.block p.1 hlt (fun e => (hr p.1 e.symm).2 p hp rfl)]
  exact hp1⟩, h.uniq⟩
theorem Rep.addN (h : Rep B0 w0 L w) {b : Nat} {o : Obj} (hb : B0 ≤ b) (ho : w.heap[b]? = some o) (hn : ∀ p, p ∈ L → p.1 ≠ b) : Rep B0 w0 ((b, o) :: L) w :=
 ⟨h.below, h.le, fun p hp => by
  rcases List.mem_cons.1 hp with rfl | hp
  ·exact ⟨hb, ho⟩
  ·exact h.own p hp, by
  rw [List.map_cons, List.nodup_cons]
  refine ⟨fun hm => ?_, h.uniq⟩
  obtain ⟨p, hp, e⟩ := List.mem_map.1 hm
  exact hn p hp e⟩
theorem Rep.dropN {p : Nat × Obj} (h : Rep B0 w0 (p :: L) w) : Rep B0 w0 L w := h.weaken (List.sublist_cons_self _ _)
theorem Rep.apartN {p : Nat × Obj} (h : Rep B0 w0 (p :: L) w) : ∀ q, q ∈ L → q.1 ≠ p.1 := fun q hq e => by
 have := h.uniq
 rw [List.map_cons, List.nodup_cons] at this
 exact this.1 (List.mem_map.2 ⟨q, hq, e⟩)
theorem Rep.permN {L' : List (Nat × Obj)} (h : Rep B0 w0 L w) (hp : L.Perm L') : Rep B0 w0 L' w := by
 rw [← Rep.perm hp]; exact h
end
structure GrN where
 a : Option Addr
 cap : Nat
 bl : List (Nat × Obj)
noncomputable def xFd (f : Nat → Nat) (n : Nat) : List Value := (List.range n).flatMap fun j => nl (f j)
theorem xCx (f : Nat → Nat) (n : Nat) : xFd f (n + 1) = xFd f n ++ nl (f n) := by
 unfold xFd; rw [List.range_succ, List.flatMap_append]; simp
theorem xHm (a : Nat) : (nl a).length = 4 := rfl
theorem xBb (f : Nat → Nat) (n : Nat) : (xFd f n).length = n * 4 := by
 induction n with
 | zero => rfl
 | succ n ih => rw [xCx, List.length_append, ih, xHm]; omega
theorem xIt (f : Nat → Nat) : ∀ (n j k : Nat), j < n → k < 4 → (xFd f n)[j * 4 + k]? = (nl (f j))[k]?
  | 0, j, _, h, _ => absurd h (Nat.not_lt_zero j)
  | n + 1, j, k, h, hk => by
    rw [xCx]
    by_cases hj : j < n
    · rw [List.getElem?_append_left (by rw [xBb]; omega)]
      exact xIt f n j k hj hk
    · obtain rfl : j = n := by omega
      rw [List.getElem?_append_right (by rw [xBb]; omega), xBb, Nat.add_sub_cancel_left]
def xCc (x : GrN) (n : Nat) (f : Nat → Nat) : Prop := (x = ⟨none, 0, []⟩ ∧ n = 0) ∨
 ∃ g, ∃ cur : List Value, x.a = some ⟨g, 0, none⟩ ∧ x.bl = [(g, .cells cur.toArray 24)] ∧ n ≤ x.cap ∧ x.cap ≤ maxLen ∧ cur.length = x.cap * 4 ∧ cur.take (n * 4) = xFd f n
theorem xBj (f : Nat → Nat) : xCc ⟨none, 0, []⟩ 0 f := .inl ⟨rfl, rfl⟩
theorem grN_cap {x : GrN} {n : Nat} {f : Nat → Nat} (h : xCc x n f) : n ≤ x.cap ∧ x.cap ≤ maxLen := by
 rcases h with ⟨rfl, rfl⟩ | ⟨g, cur, ha, hbl, h1, h2, h3, h4⟩
 ·exact ⟨Nat.le_refl _, Nat.zero_le _⟩
 ·exact ⟨h1, h2⟩
theorem info_numT : (Tryz.prog.info? 24).map (fun i => (i.zero.map (fun z => z.cells.size), i.size, i.bytes)) = some (some 4, 4, 32) := by kernel_rfl
theorem xFq : ∃ i z, Tryz.prog.info? 24 = some i ∧ i.zero = some z ∧ z.cells.size = 4 ∧ i.size = 4 ∧ i.bytes = 32 := by
 have h := info_numT
 cases hi : Tryz.prog.info? 24 with
 | none => rw [hi] at h; cases h
 | some i =>
  rw [hi] at h
  simp only [Option.map_some, Option.some.injEq, Prod.mk.injEq] at h
  obtain ⟨h1, h2, h3⟩ := h
  cases hz : i.zero with
  | none => rw [hz] at h1; cases h1
  | some z => rw [hz] at h1; exact ⟨i, z, rfl, hz, by simpa using h1, h2, h3⟩
theorem xGa (a : Nat) : ∀ u ∈ nl a, u.oneCell' = true := fun u hu => by
 simp only [nl, List.mem_cons, List.not_mem_nil, or_false] at hu
 rcases hu with rfl | rfl | rfl | rfl <;> rfl
section
variable {w w0 : World} {B0 : Nat} {R : List (Nat × Obj)} {ops : Array Oper} {rest : List Oper} {o : Oper} {a : Act} {Q : Exit → Act → World → Prop}
theorem xBp {L' : List (Nat × Obj) → List (Nat × Obj)} {x : GrN} {n : Nat} {f : Nat → Nat} {b v : Nat} (hR : Rep B0 w0 ((b, .cells (nl v).toArray 24) :: L' x.bl) w) (hp : ∀ l, (L' l).Perm (l ++ R)) (hgd : o.guard = none) {s y : Operand} (ho : o.op = .call { callee := .builtin .append, args := #[s, y], argTypes := #[27, 27] })
  (hs : a.eval s = .slice x.a n x.cap) (hy : a.eval y = .slice (some ⟨b, 0, none⟩) 1 1) (hg : xCc x n f) (hv : f n = v) (hbig : n ≤ 1000000)
  (h : ∀ (x' : GrN) w', xCc x' (n + 1) f → Rep B0 w0 (L' x'.bl) w' → wpList Tryz.prog ops Q rest (a.put o.dst (.slice x'.a (n + 1 : Nat) x'.cap)) w') : wpList Tryz.prog ops Q (o :: rest) a w := by
 subst hv
 obtain ⟨i, z, hi, hz, hzs, hsize, hby⟩ := xFq
 have hnews : ∀ j u, (nl (f n))[j]? = some u → w.cell? ((⟨b, 0, none⟩ : Addr).add j) = some u := fun j u hj => by
  rw [xBw, Nat.zero_add]
  exact hR.cell (.head _) hj
 have hlt : b < w.heap.size := hR.lt (.head _)
 have hR0 : Rep B0 w0 (x.bl ++ R) w := hR.dropN.permN (hp x.bl)
 have hm63 : n + 1 ≤ maxLen := by unfold maxLen; omega
 have hmb : (n + 1) * 32 ≤ 140737488355328 := by omega
 rcases hg with ⟨rfl, rfl⟩ | ⟨g, cur, ha, hbl, h1, h2, h3, h4⟩
 ·refine wpList_append_own_at (P := Tryz.prog) w hgd s y 27 ho B0 24 i z 4 32 Tryz.underlying27 hi hz hsize hby hzs (by decide) (.slice none 0 0) 0 [] hs ⟨by simp, .inl ⟨rfl, rfl⟩⟩ _ 1 1 (nl (f 0)) hy rfl hnews (xGa _) hm63 hmb hR.le ?_
  intro v' w' hO hgr hiff hat
  obtain ⟨hl', ⟨hv, _⟩ | ⟨g', cap', cur', rfl, hB, hh, k2, k3, k4, k5⟩⟩ := hO
  ·exact absurd (hiff.1 hv).2 (by decide)
  ·have hR' := hR0.growN hgr (fun r hr => by cases hr)
   have hgg : g' = w.heap.size := by
    rcases hat with hat | hat
    ·cases hat
    ·exact Option.some.inj hat
   have hR2 := hR'.addN hB hh (fun p hp e => by
    have := hR0.lt hp
    omega)
   refine h ⟨some ⟨g', 0, none⟩, cap', [(g', .cells cur'.toList.toArray 24)]⟩ w' (.inr ⟨g', cur'.toList, rfl, rfl, k2, k3, by simpa using k4, ?_⟩) (Rep.permN ?_ (hp _).symm)
   ·rw [k5]; rfl
   ·simpa using hR2
 ·rw [hbl] at hR0
  have hR1 : Rep B0 w0 ((g, .cells cur.toArray 24) :: R) w := hR0
  rw [ha] at hs
  refine wpList_append_own_at (P := Tryz.prog) w hgd s y 27 ho B0 24 i z 4 32 Tryz.underlying27 hi hz hsize hby hzs (by decide) _ n (xFd f n) hs ⟨by rw [xBb], .inr ⟨g, x.cap, cur.toArray, rfl, (hR1.own _ (.head _)).1, (hR1.own _ (.head _)).2, h1, h2, by simpa using h3, by simpa using h4⟩⟩ _ 1 1 (nl (f n)) hy rfl hnews (xGa _) hm63 hmb hR.le ?_
  intro v' w' hO hgr hiff hat
  obtain ⟨hl', ⟨hv, _⟩ | ⟨g', cap', cur', rfl, hB, hh, k2, k3, k4, k5⟩⟩ := hO
  ·exact absurd (hiff.1 hv).2 (by decide)
  ·have hR' := hR1.dropN.growN hgr (fun r hr => by
    obtain rfl : g = r := Option.some.inj hr
    exact ⟨(hR1.own _ (.head _)).1, hR1.apartN⟩)
   have hR2 := hR'.addN hB hh (fun p hp e => by
    rcases hat with hat | hat
    ·have hgg : g' = g := Option.some.inj hat
     exact hR1.apartN p hp (e.trans hgg)
    ·have hgg : g' = w.heap.size := Option.some.inj hat
     have := hR1.lt (.tail _ hp)
     omega)
   refine h ⟨some ⟨g', 0, none⟩, cap', [(g', .cells cur'.toList.toArray 24)]⟩ w' (.inr ⟨g', cur'.toList, rfl, rfl, k2, k3, by simpa using k4, ?_⟩) (Rep.permN ?_ (hp _).symm)
   ·rw [k5, xCx]
   ·simpa using hR2
end
end
section
structure NAt (B0 : Nat) (w0 : World) (L : List (Nat × Obj)) (a : Option Addr) (len cap : Nat) (f : Nat → Nat) : Prop where
 lec : len ≤ cap
 big : cap ≤ maxLen
 lt : ∀ j, j < len → f j < B
 at' : len ≠ 0 → ∃ b o, a = some ⟨b, o, none⟩ ∧ ∀ w, Rep B0 w0 L w → ∀ j, j < len → w.rangeAt b (o + j * 4) (nl (f j))
section
variable {B0 : Nat} {w0 w : World} {L L' : List (Nat × Obj)} {a : Option Addr} {len cap : Nat} {f : Nat → Nat}
theorem NAt.mono (h : NAt B0 w0 L a len cap f) (hL : ∀ w, Rep B0 w0 L' w → Rep B0 w0 L w) : NAt B0 w0 L' a len cap f :=
 ⟨h.lec, h.big, h.lt, fun hk => by
  obtain ⟨b, o, q1, q2⟩ := h.at' hk
  exact ⟨b, o, q1, fun w hw => q2 w (hL w hw)⟩⟩
theorem NAt.any (h : NAt B0 w0 [] a len cap f) : NAt B0 w0 L a len cap f := h.mono fun w hw => hw.weaken (List.nil_sublist _)
theorem xBc {b o n : Nat} (h : w.rangeAt b o (nl n)) : (loadVar 24 ⟨b, o, none⟩).run Tryz.prog w = .ok (num n) w := by
 obtain ⟨d, hu, hd, hi⟩ := (inferInstance : RowT Tryz.prog 24 4).is
 exact run_loadVar_mid w b o 24 (nl n) d h hu hd (by rw [hi]; rfl)
structure NOwn (cap : Nat) (cur : List Value) (n : Nat) (f : Nat → Nat) : Prop where
 le : n ≤ cap
 big : cap ≤ maxLen
 len : cur.length = cap * 4
 is : cur.take (n * 4) = xFd f n
theorem NOwn.row {cur : List Value} {n : Nat} (h : NOwn cap cur n f) {j : Nat} (hj : j < n) : (cur.drop (j * 4)).take 4 = nl (f j) := by
 refine List.ext_getElem? fun k => ?_
 rw [List.getElem?_take]
 by_cases hk : k < 4
 ·rw [if_pos hk, List.getElem?_drop, ← xIt f n j k hj hk, ← h.is, List.getElem?_take, if_pos (by omega)]
 ·rw [if_neg hk]
  exact (List.getElem?_eq_none (by rw [xHm]; omega)).symm
theorem NOwn.at {g : Nat} {cur : List Value} {n m : Nat} (h : NOwn cap cur n f) (hm : (g, Obj.cells cur.toArray 24) ∈ L) (hmn : m ≤ n) (hlt : ∀ j, j < m → f j < B) : NAt B0 w0 L (some ⟨g, 0, none⟩) m cap f :=
 ⟨by have := h.le; omega, h.big, hlt, fun _ => ⟨g, 0, rfl, fun w hw j hj => by
  rw [Nat.zero_add]
  exact hw.rangeAt hm (h.row (by omega))⟩⟩
theorem NOwn.grn {g : Nat} {cur : List Value} {n : Nat} (h : NOwn cap cur n f) : xCc ⟨some ⟨g, 0, none⟩, cap, [(g, .cells cur.toArray 24)]⟩ n f := .inr ⟨g, cur, rfl, rfl, h.le, h.big, h.len, h.is⟩
theorem grn_own {x : GrN} {n : Nat} (h : xCc x n f) (hn : n ≠ 0) : ∃ g, ∃ cur : List Value, x.a = some ⟨g, 0, none⟩ ∧ x.bl = [(g, .cells cur.toArray 24)] ∧ NOwn x.cap cur n f := by
 rcases h with ⟨_, h⟩ | ⟨g, cur, h1, h2, h3, h4, h5, h6⟩
 ·exact absurd h hn
 ·exact ⟨g, cur, h1, h2, h3, h4, h5, h6⟩
theorem NAt.nums (h : NAt B0 w0 L a len cap f) (hR : Rep B0 w0 L w) : xKk w a len f := ⟨fun hp => by
 obtain ⟨b, o, q1, q2⟩ := h.at' (by omega)
 have hr := q2 w hR
 refine ⟨b, o, q1, ?_, fun j hj => lies_of fun k hk => ?_⟩
 ·have h0 := hr 0 hp 0 _ (show (nl (f 0))[0]? = some _ from rfl)
  unfold World.cell? at h0
  split at h0
  ·rename_i hh
   exact (Array.getElem?_eq_some_iff.1 hh).1
  ·cases h0
 ·obtain ⟨u, hu⟩ : ∃ u, (nl (f j))[k]? = some u := ⟨_, List.getElem?_eq_getElem (show k < (nl (f j)).length from hk)⟩
  rw [hu]
  exact hr j hj k u hu⟩
theorem xHx (c : Nat) (hc : c ≤ 1000001) : ∃ l : List Value, l.length = c * 4 ∧ ∀ w : World, (Instr.makeSlice 27 (.int .i64 0) (.int .i64 (c : Int))).run Tryz.prog w = .ok (.slice (some ⟨w.heap.size, 0, none⟩) 0 c) (w.alloc (.cells l.toArray 24)) := by
 obtain ⟨i, z, hi, hz, hzs, hsize, hby⟩ := xFq
 refine ⟨(madeCells z.cells (c * 4)).toList, by simp [size_madeCells], fun w => ?_⟩
 have := run_make (P := Tryz.prog) w 27 24 i z Tryz.underlying27 hi hz .i64 .i64 0 (c : Int) (by decide) (by omega) (by rw [hby]; omega) (by omega)
 rw [this, hsize]
 simp
end
noncomputable def twN : (Nat → Nat) → Nat → Nat → Nat := opq fun f n j => if j < n then f j else 77
theorem twN_lt (f : Nat → Nat) {n j : Nat} (h : j < n) : twN f n j = f j := by unfold twN; rw [xBs]; simp [h]
theorem twN_end (f : Nat → Nat) (n : Nat) : twN f n n = 77 := by unfold twN; rw [xBs]; simp
attribute [local irreducible] Calls Instr.build Instr.buildSlice
section
variable {B0 : Nat} {w0 w : World} {L : List (Nat × Obj)}
theorem twin_nums {a : Option Addr} {n cp : Nat} {f : Nat → Nat} (hv : NAt B0 w0 L a n cp f) (hn : n ≤ 1000) (hR : Rep B0 w0 L w) :
  Calls Tryz.prog 7 #[.slice a n cp] w fun e w' => ∃ g cap, e = .returned (.slice (some ⟨g, 0, none⟩) n cap) ∧ ∃ cur, NOwn cap cur (n + 1) (twN f n) ∧ Rep B0 w0 ((g, .cells cur.toArray 24) :: L) w' := by
 obtain ⟨n1, hn1⟩ : ∃ x, n + 1 = x := ⟨_, rfl⟩
 have f1 : IntKind.i64.wrap ((n : Int) + 1) = (n1 : Int) := by rw [IntKind.wrap_i64]; omega
 obtain ⟨l0, hl0, hmk⟩ := xHx n1 (by omega)
 replace hv := Held.mk hv
 replace hn1 := Held.mk hn1
 obtain ⟨n7, hn7⟩ : ∃ n, n = 77 := ⟨_, rfl⟩
 have b7 : ∀ w : World, (Instr.build 24 #[(0, .int .u64 77)]).run Tryz.prog w = .ok (.agg (nl n7).toArray) w := by rw [hn7]; exact build_77
 have e7 : twN f n n = n7 := by rw [twN_end, hn7]
 replace e7 := Held.mk e7
 clear hn7
 go_enter Tryz.func7, Tryz.ntmps7
 go_wp2_with (refine' xCv hR rfl rfl rfl rfl hmk ?_; clear hR; intro blk w hR)
 refine' xAv (false :: false :: false :: false :: false :: false :: false :: false :: false :: true :: true :: true :: true :: true :: true :: true :: true :: true :: true :: true :: true :: true :: false :: false :: false :: false :: false :: false :: false :: []) (fun (x : Nat × GrN) l => (l.set 3 (.slice x.2.a x.1 x.2.cap)).set 4 (.int .i64 (x.1 : Int))) (fun x => x.2.bl ++ L) (fun x => n - x.1) (fun x => x.1 ≤ n ∧ xCc x.2 x.1 (twN f n)) (0, ⟨some ⟨blk, 0, none⟩, n1, [(blk, .cells l0.toArray 24)]⟩) ?h0 ?hO ?hR ?hs
 case h0 => exact xAf rfl rfl rfl
 case hO => exact ⟨Nat.zero_le _, .inr ⟨blk, l0, rfl, rfl, Nat.zero_le _, by show n1 ≤ maxLen; unfold maxLen; have := hn1.out; omega, hl0, rfl⟩⟩
 case hR => exact hR
 case hs =>
  clear hR hl0 hmk
  intro x tm w hO ht hR K hK
  obtain ⟨i, x⟩ := x
  obtain ⟨hi, hx⟩ := hO
  simp only at hi hx ht hR
  have g0 : 0 ≤ (i : Int) := by omega
  by_cases hik : i = n
  ·subst hik
   clear hK
   have t1 : ¬ (i : Int) < (i : Int) := by omega
   have hbig : i ≤ 1000000 := by omega
   repeat (first | (obtain ⟨x, tm', e, ht'⟩ := xAc ht; clear ht; subst e; have ht := ht'; clear ht') | (obtain ⟨tm', e, ht'⟩ := xAa ht; clear ht; subst e; have ht := ht'; clear ht'))
   obtain rfl := xAe ht
   clear ht
   go_wp2_with (first | (refine' xCk rfl rfl rfl b7 ?_) | (refine' xBz hR (xBv rfl rfl rfl) ?_; clear hR; intro bt w hR) | (refine' xBp (L' := fun l => l ++ L) hR (fun l => List.Perm.refl _) rfl rfl rfl rfl hx e7.out hbig ?_; clear hR hx; intro x' w hx hR; have cx := grN_cap hx; obtain ⟨g', cur', hxa, hxb, hxo⟩ := grn_own hx (Nat.succ_ne_zero _); obtain ⟨xa, cap', xb⟩ := x'; simp only at hxa hxb hxo hR cx; subst hxa hxb; have c5 : (i : Int) ≤ (cap' : Int) := Int.ofNat_le.2 (Nat.le_of_succ_le cx.1); have c6 : ¬ cap' = 0 := fun h => Nat.not_succ_le_zero i (h ▸ cx.1)))
   go_ret
   exact ⟨g', cap', rfl, cur', hxo, hR⟩
  ·have g1 : (i : Int) < (n : Int) := by omega
   have hin : i < n := by omega
   obtain ⟨bb, off, rfl, hmr⟩ := hv.out.at' (by omega)
   have hld := xBc (hmr w (hR.weaken (List.sublist_append_right _ _)) i hin)
   have e8 : twN f n i = f i := twN_lt f hin
   generalize f i = fi at *
   have e1 : IntKind.i64.wrap ((i : Int) + 1) = (i : Int) + 1 := by rw [IntKind.wrap_i64]; omega
   have ek : ((i + 1 : Nat) : Int) = (i : Int) + 1 := by omega
   have hbig : i ≤ 1000000 := by omega
   replace ek := Held.mk ek
   replace e8 := Held.mk e8
   clear hmr hv
   repeat (first | (obtain ⟨x, tm', e, ht'⟩ := xAc ht; clear ht; subst e; have ht := ht'; clear ht') | (obtain ⟨tm', e, ht'⟩ := xAa ht; clear ht; subst e; have ht := ht'; clear ht'))
   obtain rfl := xAe ht
   clear ht
   go_wp2_with (first | (refine' xBr rfl rfl rfl hld ?_) | (refine' xBz hR (xBv rfl rfl rfl) ?_; clear hR; intro bt w hR) | (refine' xBp (L' := fun l => l ++ L) hR (fun l => List.Perm.refl _) rfl rfl rfl rfl hx e8.out hbig ?_; clear hR hx; intro x' w hx hR))
   exact hK.out (i + 1, x') _ _ ⟨by omega, hx⟩ (by show n - (i + 1) < n - i; omega) (by simp only [ek.out]; exact xAf rfl rfl rfl) hR
theorem left_nums {g cap n cp : Nat} {cur : List Value} {a : Option Addr} {f : Nat → Nat} (ho : NOwn cap cur (n + 1) (twN f n)) (hm : (g, Obj.cells cur.toArray 24) ∈ L) (hv : NAt B0 w0 L a n cp f) (hn : n ≤ 1000) (hR : Rep B0 w0 L w) :
  Calls Tryz.prog 15 #[.slice (some ⟨g, 0, none⟩) n cap, .slice a n cp] w fun e w' => e = .returned (.bool true) ∧ Rep B0 w0 L w' := by
 obtain ⟨n1, hn1⟩ : ∃ x, n + 1 = x := ⟨_, rfl⟩
 have hcap := ho.le
 have hcm := ho.big
 unfold maxLen at hcm
 have f1 : IntKind.i64.wrap ((n : Int) + 1) = (n1 : Int) := by rw [IntKind.wrap_i64]; omega
 have f2 : ¬ (cap : Int) ≤ (n : Int) := by omega
 have f3 : decide ((cap : Int) ≤ (n : Int)) = false := decide_eq_false f2
 have f4 : ¬ cap = 0 := by omega
 have f5 : (n1 : Int) ≤ (cap : Int) := by omega
 have f6 : 0 ≤ (n1 : Int) := by omega
 have f7 : (n : Int) < (n1 : Int) := by omega
 have f8 : 0 ≤ (n : Int) := by omega
 obtain ⟨n7, hn7⟩ : ∃ n, n = 77 := ⟨_, rfl⟩
 have b7 : ∀ w : World, (Instr.build 24 #[(0, .int .u64 77)]).run Tryz.prog w = .ok (.agg (nl n7).toArray) w := by rw [hn7]; exact build_77
 have e7 := xDm n7
 have rt : ∀ w, Rep B0 w0 L w → ∀ j, j < n + 1 → w.rangeAt g (j * 4) (nl (twN f n j)) := fun w hw j hj => hw.rangeAt hm (ho.row hj)
 have lds := fun (w : World) (hw : Rep B0 w0 L w) => xBc (rt w hw n (by omega))
 rw [twN_end, ← hn7] at lds
 replace rt := Held.mk rt
 replace hv := Held.mk hv
 replace hn1 := Held.mk hn1
 clear hn7 ho hm hcap hcm
 go_enter Tryz.func15, Tryz.ntmps15
 go_wp2_with (fail)
 try simp only [Act.put, kA, kB, List.setIfInBounds_toArray]
 refine' xBo hR (false :: false :: false :: false :: false :: false :: false :: false :: false :: false :: false :: false :: false :: false :: false :: false :: false :: false :: false :: true :: true :: true :: true :: true :: true :: true :: true :: true :: true :: true :: true :: true :: true :: true :: false :: false :: false :: false :: false :: false :: false :: false :: false :: false :: false :: false :: []) (fun (i : Nat) l => l.set 5 (.int .i64 (i : Int))) (fun i => n - i) (fun i => i ≤ n) 0 ?h0 ?hO ?hs
 case h0 => exact xAf rfl rfl rfl
 case hO => exact Nat.zero_le _
 case hs =>
  clear hR
  intro i tm w hi ht hR K hK
  have g0 : 0 ≤ (i : Int) := by omega
  by_cases hik : i = n
  ·subst hik
   have t1 : ¬ (i : Int) < (i : Int) := by omega
   have t1' : decide ((i : Int) < (i : Int)) = false := decide_eq_false t1
   have ldw := lds w hR
   clear hK hi lds rt hv
   repeat (first | (obtain ⟨x, tm', e, ht'⟩ := xAc ht; clear ht; subst e; have ht := ht'; clear ht') | (obtain ⟨tm', e, ht'⟩ := xAa ht; clear ht; subst e; have ht := ht'; clear ht'))
   obtain rfl := xAe ht
   clear ht
   go_wp2_with (first | (refine' aBq hR ?_; clear hR; intro blk w hR) | (refine' aNq hR ?_) | (refine' aFq hR ?_; clear hR; intro w hR) | (refine' xBr rfl rfl rfl ldw ?_) | (refine' xCk rfl rfl rfl b7 ?_))
   go_ret
   exact ⟨rfl, hR.drop1⟩
  ·have hik' : i < n := by omega
   have g1 : (i : Int) < (n : Int) := by omega
   obtain ⟨bb, off, rfl, hx⟩ := hv.out.at' (by omega)
   have ld1 := fun (w : World) (hw : Rep B0 w0 L w) => xBc (rt.out w hw i (by omega))
   have ld2 := fun (w : World) (hw : Rep B0 w0 L w) => xBc (hx w hw i hik')
   rw [twN_lt f hik'] at ld1
   generalize f i = fi at *
   have es := xDm fi
   have ei : IntKind.i64.wrap ((i : Int) + 1) = ((i + 1 : Nat) : Int) := by rw [IntKind.wrap_i64]; omega
   have hi1 : i + 1 ≤ n := by omega
   have hmu : n - (i + 1) < n - i := by omega
   replace hi1 := Held.mk hi1
   replace hmu := Held.mk hmu
   clear hi hik hik' hx rt hv lds
   repeat (first | (obtain ⟨x, tm', e, ht'⟩ := xAc ht; clear ht; subst e; have ht := ht'; clear ht') | (obtain ⟨tm', e, ht'⟩ := xAa ht; clear ht; subst e; have ht := ht'; clear ht'))
   obtain rfl := xAe ht
   clear ht
   go_wp2_with (fail)
   refine xAd hR [0, 0, 0, 0, 0, 0, 0, 0, 0] [] xBd (by kernel_rfl) rfl rfl (fun K hK => ?_)
   clear hR
   repeat ((first | (refine' xAj (by decide) rfl (.inl rfl) rfl ?ha ?_) | ((first | refine' xAg (by decide) rfl rfl rfl rfl (fun w => ?hq) ?ha ?_ | refine' xAm (by decide) rfl rfl rfl rfl (fun w => ?hq) ?ha ?_); (case hq => go_simp; try rfl)) | (refine' xAn rfl rfl rfl ld1 ?ha ?_; (case ha => simp only [kP, kQ, kA, kB]; try rfl)) | (refine' xAn rfl rfl rfl ld2 ?ha ?_; (case ha => simp only [kP, kQ, kA, kB]; try rfl))); try (case ha => simp only [kP, kQ, kA, kB]; try rfl))
   refine xAo (hK _ _ ?_)
   clear hK K
   refine xAr (fun Q hQ => ?_)
   try simp only [List.nil_append, List.cons_append]
   repeat ((fail); (case hk => intro p hp; first | exact absurd hp List.not_mem_nil | (obtain rfl := List.mem_singleton.1 hp; repeat (first | exact List.Mem.head _ | with_reducible assumption | apply mC))); (case ha => simp only [kP, kQ, kA, kB]; try rfl))
   refine xAs (fun w hR => hQ _ _ ?_)
   clear hQ Q
   go_wp2_with (fail)
   exact hK.out (i + 1) _ _ hi1.out hmu.out (xAf rfl rfl rfl) hR
theorem same_nums {n m cp cq : Nat} {a b : Option Addr} {f g : Nat → Nat} (hv : NAt B0 w0 L a n cp f) (hu : NAt B0 w0 L b m cq g) (hn : n ≤ 1000) (s : Bool) (hs : s = true ↔ n = m ∧ ∀ j, j < n → f j = g j) (hR : Rep B0 w0 L w) :
  Calls Tryz.prog 14 #[.slice a n cp, .slice b m cq] w fun e w' => e = .returned (.bool s) ∧ Rep B0 w0 L w' := by
 by_cases hnm : n = m
 case neg =>
  obtain rfl : s = false := by
   cases s
   ·rfl
   ·exact absurd (hs.1 rfl).1 hnm
  have h1 : ¬ (n : Int) = (m : Int) := by omega
  have h2 : ((n : Int) == (m : Int)) = false := by simp; omega
  have h3 : ((n : Int) != (m : Int)) = true := by simp; omega
  clear hs hv hu
  go_enter Tryz.func14, Tryz.ntmps14
  go_wp2_with (fail)
  go_ret
  exact ⟨rfl, hR⟩
 subst hnm
 have hs' : s = true ↔ ∀ j, j < n → f j = g j := hs.trans ⟨fun h => h.2, fun h => ⟨rfl, h⟩⟩
 replace hs' := Held.mk hs'
 replace hv := Held.mk hv
 replace hu := Held.mk hu
 clear hs
 go_enter Tryz.func14, Tryz.ntmps14
 go_wp2_with (fail)
 try simp only [Act.put, kA, kB, List.setIfInBounds_toArray]
 refine' xBo hR (false :: false :: false :: false :: false :: false :: false :: false :: false :: false :: false :: true :: true :: true :: true :: true :: true :: true :: true :: true :: true :: true :: true :: true :: true :: true :: []) (fun (i : Nat) l => l.set 5 (.int .i64 (i : Int))) (fun i => n - i) (fun i => i ≤ n ∧ ∀ j, j < i → f j = g j) 0 ?h0 ?hO ?hs
 case h0 => exact xAf rfl rfl rfl
 case hO => exact ⟨Nat.zero_le _, fun j hj => absurd hj (Nat.not_lt_zero j)⟩
 case hs =>
  clear hR
  intro i tm w hi ht hR K hK
  obtain ⟨hi, hsame⟩ := hi
  replace hsame := Held.mk hsame
  have g0 : 0 ≤ (i : Int) := by omega
  by_cases hik : i = n
  ·subst hik
   have t1 : ¬ (i : Int) < (i : Int) := by omega
   obtain rfl : s = true := hs'.out.2 hsame.out
   clear hK hi hv hu hs' hsame
   repeat (first | (obtain ⟨x, tm', e, ht'⟩ := xAc ht; clear ht; subst e; have ht := ht'; clear ht') | (obtain ⟨tm', e, ht'⟩ := xAa ht; clear ht; subst e; have ht := ht'; clear ht'))
   obtain rfl := xAe ht
   clear ht
   go_wp2_with (fail)
   go_ret
   exact ⟨rfl, hR⟩
  ·have hik' : i < n := by omega
   have g1 : (i : Int) < (n : Int) := by omega
   obtain ⟨bb, off, rfl, hx⟩ := hv.out.at' (by omega)
   obtain ⟨bc, ofc, rfl, hy⟩ := hu.out.at' (by omega)
   have ld1 := fun (w : World) (hw : Rep B0 w0 L w) => xBc (hx w hw i hik')
   have ld2 := fun (w : World) (hw : Rep B0 w0 L w) => xBc (hy w hw i hik')
   have lf := hv.out.lt i hik'
   have lg := hu.out.lt i hik'
   by_cases hfg : f i = g i
   ·have hnext : ∀ j, j < i + 1 → f j = g j := fun j hj => by
     by_cases hji : j = i
     ·rw [hji]; exact hfg
     ·exact hsame.out j (by omega)
    rw [hfg] at ld1
    generalize g i = gi at *
    have es := xDm gi
    have ei : IntKind.i64.wrap ((i : Int) + 1) = ((i + 1 : Nat) : Int) := by rw [IntKind.wrap_i64]; omega
    have hi1 : i + 1 ≤ n := by omega
    have hmu : n - (i + 1) < n - i := by omega
    replace hi1 := Held.mk hi1
    replace hmu := Held.mk hmu
    replace hnext := Held.mk hnext
    clear hi hik hik' hx hy hv hu hs' hsame lf lg hfg
    repeat (first | (obtain ⟨x, tm', e, ht'⟩ := xAc ht; clear ht; subst e; have ht := ht'; clear ht') | (obtain ⟨tm', e, ht'⟩ := xAa ht; clear ht; subst e; have ht := ht'; clear ht'))
    obtain rfl := xAe ht
    clear ht
    go_wp2_with (fail)
    refine xAd hR [0, 0, 0, 0, 0, 0, 0, 0, 0] [] xBd (by kernel_rfl) rfl rfl (fun K hK => ?_)
    clear hR
    repeat ((first | (refine' xAj (by decide) rfl (.inl rfl) rfl ?ha ?_) | ((first | refine' xAg (by decide) rfl rfl rfl rfl (fun w => ?hq) ?ha ?_ | refine' xAm (by decide) rfl rfl rfl rfl (fun w => ?hq) ?ha ?_); (case hq => go_simp; try rfl)) | (refine' xAn rfl rfl rfl ld1 ?ha ?_; (case ha => simp only [kP, kQ, kA, kB]; try rfl)) | (refine' xAn rfl rfl rfl ld2 ?ha ?_; (case ha => simp only [kP, kQ, kA, kB]; try rfl))); try (case ha => simp only [kP, kQ, kA, kB]; try rfl))
    refine xAo (hK _ _ ?_)
    clear hK K
    refine xAr (fun Q hQ => ?_)
    try simp only [List.nil_append, List.cons_append]
    repeat ((fail); (case hk => intro p hp; first | exact absurd hp List.not_mem_nil | (obtain rfl := List.mem_singleton.1 hp; repeat (first | exact List.Mem.head _ | with_reducible assumption | apply mC))); (case ha => simp only [kP, kQ, kA, kB]; try rfl))
    refine xAs (fun w hR => hQ _ _ ?_)
    clear hQ Q
    go_wp2_with (fail)
    exact hK.out (i + 1) _ _ ⟨hi1.out, hnext.out⟩ hmu.out (xAf rfl rfl rfl) hR
   ·have es := xDq lf lg hfg
    obtain rfl : s = false := by
     cases s
     ·rfl
     ·exact absurd (hs'.out.1 rfl i hik') hfg
    generalize f i = fi at *
    generalize g i = gi at *
    clear hK hi hik hik' hx hy hv hu hs' hsame lf lg hfg
    repeat (first | (obtain ⟨x, tm', e, ht'⟩ := xAc ht; clear ht; subst e; have ht := ht'; clear ht') | (obtain ⟨tm', e, ht'⟩ := xAa ht; clear ht; subst e; have ht := ht'; clear ht'))
    obtain rfl := xAe ht
    clear ht
    go_wp2_with (fail)
    refine xAd hR [0, 0, 0, 0, 0, 0, 0, 0, 0] [] xBd (by kernel_rfl) rfl rfl (fun K hK => ?_)
    clear hR
    repeat ((first | (refine' xAj (by decide) rfl (.inl rfl) rfl ?ha ?_) | ((first | refine' xAg (by decide) rfl rfl rfl rfl (fun w => ?hq) ?ha ?_ | refine' xAm (by decide) rfl rfl rfl rfl (fun w => ?hq) ?ha ?_); (case hq => go_simp; try rfl)) | (refine' xAn rfl rfl rfl ld1 ?ha ?_; (case ha => simp only [kP, kQ, kA, kB]; try rfl)) | (refine' xAn rfl rfl rfl ld2 ?ha ?_; (case ha => simp only [kP, kQ, kA, kB]; try rfl))); try (case ha => simp only [kP, kQ, kA, kB]; try rfl))
    refine xAo (hK _ _ ?_)
    clear hK K
    refine xAr (fun Q hQ => ?_)
    try simp only [List.nil_append, List.cons_append]
    repeat ((fail); (case hk => intro p hp; first | exact absurd hp List.not_mem_nil | (obtain rfl := List.mem_singleton.1 hp; repeat (first | exact List.Mem.head _ | with_reducible assumption | apply mC))); (case ha => simp only [kP, kQ, kA, kB]; try rfl))
    refine xAs (fun w hR => hQ _ _ ?_)
    clear hQ Q
    go_wp2_with (fail)
    go_ret
    exact ⟨rfl, hR⟩
end
end
section
open Go.RowKit Go.ChangeShapes
theorem cells_nums : Tryz.prog.cellsOf 27 = 1 := by kernel_rfl
theorem trod_nums {H : Type} {enc : TypeId × Value → H} {W : World} {base fuel : Nat} {sp : Nat → Bool} {held : Bool} {l : List Value} {y : DataW H × List MemPlace} (hf : DataW.trod enc Tryz.prog W base sp held fuel 27 l = some y) :
  ∃ a n cap f, l = [.slice a n cap] ∧ NAt W.heap.size W [] a n cap f := by
 rcases DataW.trod_slice Tryz.underlying27 hf with ⟨h1, _⟩ | ⟨a, len, cap, elems, rest, n, _, h1, _, _, hlc, hcm, hlen, hel, _, _⟩
 ·exact ⟨none, 0, 0, fun _ => 0, h1, ⟨Nat.le_refl _, Nat.zero_le _, fun j h => absurd h (Nat.not_lt_zero j), fun h => absurd rfl h⟩⟩
 ·rw [cells_numR] at hel
  have each : ∀ j, j < len → ∃ z, z < B ∧ ∀ k, k < 4 → W.cell? ((a.add (j * 4)).add k) = (nl z)[k]? := fun j hj => by
   have h2 := hel j hj
   rw [List.getElem?_eq_getElem (by omega), Option.bind_eq_some_iff] at h2
   obtain ⟨cs, hc, ht⟩ := h2
   obtain ⟨_, c2, c3⟩ := World.cells?_some hc
   obtain ⟨z, lz, ez, _⟩ := xGl (by simpa using c2) ht
   refine ⟨z, lz, fun k hk => ?_⟩
   rw [← ez]
   exact c3 k hk
  classical
  obtain ⟨f, hf⟩ : ∃ f : Nat → Nat, ∀ j, j < len → f j < B ∧ ∀ k, k < 4 → W.cell? ((a.add (j * 4)).add k) = (nl (f j))[k]? := by
   refine ⟨fun j => if hj : j < len then (each j hj).choose else 0, fun j hj => ?_⟩
   simp only [dif_pos hj]
   exact (each j hj).choose_spec
  refine ⟨some a, len, cap, f, h1, ⟨hlc, hcm, fun j hj => (hf j hj).1, fun hne => ?_⟩⟩
  have hpos : 0 < len := by omega
  have hc0 := (hf 0 hpos).2 0 (by decide)
  have e0 : (nl (f 0))[0]? = some (.int .u64 (wd (f 0) 0)) := rfl
  rw [e0, Nat.zero_mul] at hc0
  have ea : (a.add 0).add 0 = a.add 0 := by unfold Addr.add; split <;> simp_all
  rw [ea] at hc0
  obtain ⟨bb, off, rfl, hblk⟩ := xJz hc0
  refine ⟨bb, off, rfl, fun w hw j hj k v hk => ?_⟩
  have hk4 : k < 4 := by
   rcases Nat.lt_or_ge k 4 with h | h
   ·exact h
   ·rw [List.getElem?_eq_none (by rw [xHm]; exact h)] at hk; cases hk
  have := (hf j hj).2 k hk4
  rw [xIz, xIz] at this
  rw [hw.below.cell (p := ⟨bb, off + j * 4 + k, none⟩) hblk, this, hk]
end
end Go.Proofs.YtaaahfjpnggkbaaGreatDoor
