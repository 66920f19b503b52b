/- groups.pairs: the pairs of two slices of long numbers, handed out one by one. -/
import Derived.RangeFuncNested
import Derived.RangeFuncBound
import Derived.RangeFuncCalls
import Derived.RangeFuncLeaves
import Derived.RangeFuncBox
import Derived.RangeFuncFrom
import Derived.Shelf.Abstract
import Derived.Shelf.RegionOpen
import Derived.WalkKit
import Derived.OwnWalkIn
import Derived.TacticsInMore
import Derived.LoopNIn
import Derived.LoopIn
import Derived.Sort.CutIn
import Derived.Stop.RegionWithIn
import Derived.Test.YtdmdkdodfngjiaaNum
import Derived.Test.YtdmdkdodfngjiaaCut
import Derived.Test.YtdmdkdodfngjiaaFence
set_option linter.unusedSimpArgs false
set_option linter.unusedVariables false
namespace Go.Proofs.Ytdmdkdodfngjiaa
open Go.RowKit
attribute [local go_sem] Oper.semAt_some

/-- A number and its exponent. -/
abbrev Pair := { x : Nat × Nat // x.1 < B ∧ x.2 < B }
/-- The first m of them. -/
def up (zs : Nat → Pair) (m : Nat) : List Pair := (List.range m).map zs
theorem up_zero (zs : Nat → Pair) : up zs 0 = [] := rfl
theorem up_succ (zs : Nat → Pair) (m : Nat) : up zs (m + 1) = up zs m ++ [zs m] := by simp [up, List.range_succ]
theorem up_length (zs : Nat → Pair) (m : Nat) : (up zs m).length = m := by simp [up]
/-- Some blocks read as they did. -/
def keepS (bs : List Nat) (A B : World) : Prop := ∀ p : Addr, p.block ∈ bs → B.cell? p = A.cell? p
theorem keepS_t {bs : List Nat} {A B C : World} (h1 : keepS bs A B) (h2 : keepS bs B C) : keepS bs A C := fun p hp => (h2 p hp).trans (h1 p hp)
theorem keepS_b {bs : List Nat} {w : World} (h1 : ∀ b ∈ bs, b < w.heap.size) (W : World) (l : Nat) (o o' : Obj) (hl : w.heap.size ≤ l) (_ : W.heap[l]? = some o) (_ : o.isCells = false) (_ : o.isWalk = false) : keepS bs W (W.putObj l o') := fun p hp =>
  World.cell?_of_block (World.putObj_heap_other (fun e => by have := h1 _ hp; omega))

/-- A long number lies from cell i of a block on. -/
def liesAt (w : World) (b i a : Nat) : Prop := w.cell? ⟨b, i, none⟩ = some (.int .u64 (wd a 0)) ∧ w.cell? ⟨b, i + 1, none⟩ = some (.int .u64 (wd a 1)) ∧ w.cell? ⟨b, i + 2, none⟩ = some (.int .u64 (wd a 2)) ∧ w.cell? ⟨b, i + 3, none⟩ = some (.int .u64 (wd a 3))

theorem liesAt.drew {w : World} {b i a : Nat} (h : liesAt w b i a) : liesAt w.drew b i a := h
theorem liesAt.load {w : World} {b i a : Nat} (h : liesAt w b i a) : (loadVar 24 ⟨b, i, none⟩).run Try.prog w = .ok (num a) w := by
  obtain ⟨d, hu, hd, hi⟩ := (inferInstance : RowT Try.prog 24 4).is
  obtain ⟨h0, h1, h2, h3⟩ := h
  refine run_loadVar_mid w b i _ (nl a) d (fun j v hj => ?_) hu hd (by rw [hi]; rfl)
  unfold nl at hj
  rcases j with _ | _ | _ | _ | j
  · obtain rfl : _ = v := by simpa using hj
    exact h0
  · obtain rfl : _ = v := by simpa using hj
    exact h1
  · obtain rfl : _ = v := by simpa using hj
    exact h2
  · obtain rfl : _ = v := by simpa using hj
    exact h3
  · simp at hj
instance cellNums : CellT Try.prog 53 := .mk' (by kernel_rfl) (by kernel_rfl)
theorem load_cell {ty : TypeId} [hT : CellT Try.prog ty] {ad : Addr} {v : Value} {w : World} (h : w.cell? ad = some v) : (loadVar ty ad).run Try.prog w = .ok v w := by
  obtain ⟨d, hu, hd, hi⟩ := hT.is
  have hagg : (isAgg ty).run Try.prog w = .ok false w := by
    unfold isAgg
    rw [Sem.run_bind, run_underlying hu w]
    cases d <;> simp_all
  have hl : (load ad).run Try.prog w = .ok v w := by
    simp only [load, Sem.run, h]
  unfold loadVar
  rw [Sem.run_bind, hagg]
  simp only [Result.andThen_ok, Bool.false_eq_true, if_false]
  exact hl
section
variable {P : Program} {ops : Array Oper} {w : World} {ts : List Nat} {r acc : List Oper} {o : Oper} {a : Act} {K : List Oper → Act → Prop}
theorem hr_load (hw : Region.wanted o (yielded ops a.tmps) = true) {ty : TypeId} {x : Operand} (hop : o.op = .load ty x) {ad : Addr} (hx : a.eval x = .pointer (some ad)) {v : Value} (hv : (loadVar ty ad).run P w = .ok v w)
    {a' : Act} (ha : a.put o.dst v = a') (h : headR P ops w K ts r acc a') : headR P ops w K (0 :: ts) (o :: r) acc a :=
  hr_read hw (by unfold Oper.about; simp only [hop]) (by unfold execOp; simp only [hop, hx, Instr.loadAt, Instr.sureAddr, Sem.run_bind, Sem.run_pure, Result.andThen_ok, hv]) ha h
end

theorem oneWay {e : Ending} {p q : Prop} (h : (e = .returned (.bool true) ∧ p) ∨ (e = .returned (.bool false) ∧ q)) : ∃ c : Bool, e = .returned (.bool c) ∧ Held ((c = true ∧ p) ∨ (c = false ∧ q)) := by
  rcases h with ⟨h, hp⟩ | ⟨h, hq⟩
  · exact ⟨true, h, ⟨.inl ⟨rfl, hp⟩⟩⟩
  · exact ⟨false, h, ⟨.inr ⟨rfl, hq⟩⟩⟩
set_option maxRecDepth 100000 in
set_option maxHeartbeats 1000000 in
theorem pairs1_in (F : Fence) (n : Nat) (h7 : F.fn 130) (hro : F.round = none) (hn : 1 ≤ n) (l Ba Bn ba bn oa on len ca cn : Nat) (pa pn : Option Addr) (zs : Nat → Pair) (hlen : len ≤ 1000000) (hpa : 0 < len → pa = some ⟨ba, oa, none⟩) (hpn : 0 < len → pn = some ⟨bn, on, none⟩) (J Jx : List Pair → World → Prop)
    (hJd : ∀ s W, J s W → J s W.drew)
    (hY : ∀ pre (x : Pair) W, J pre W → pre.length < len → YieldAt F (n - 1) Try.prog l #[num x.1.1, num x.1.2] W fun e W' =>
      (e = .returned (.bool true) ∧ J (pre ++ [x]) W' ∧ keepS [Ba, Bn, ba, bn] W W') ∨ (e = .returned (.bool false) ∧ Jx (pre ++ [x]) W'))
    (W : World) (hBa : W.cell? ⟨Ba, 0, none⟩ = some (.slice pa len ca)) (hBn : W.cell? ⟨Bn, 0, none⟩ = some (.slice pn len cn)) (hca : ∀ j, j < len → liesAt W ba (oa + j * 4) (zs j).1.1) (hcn : ∀ j, j < len → liesAt W bn (on + j * 4) (zs j).1.2) (h0 : J [] W) :
    CallsIn F n Try.prog 130 #[.func (.yield l) #[] #[], .pointer (some ⟨Ba, 0, none⟩), .pointer (some ⟨Bn, 0, none⟩)] W fun e W' => (∃ v, e = .returned v) ∧
      ((∃ ys, ys = up zs len ∧ J ys W') ∨ (∃ pre, (∃ m, m ≤ len ∧ pre = up zs m) ∧ Jx pre W')) := by
  refine callsIn_of_wp Try.func130 rfl h7 ?_ hro
  simp only [Try.ntmps130, List.size_toArray, List.length_cons, List.length_nil, Nat.reduceAdd, Nat.reduceSub, Array.replicate_succ, Array.replicate_zero, List.push_toArray, List.append_toArray, List.nil_append, List.cons_append]
  have l0 : 0 ≤ (len : Int) := by omega
  have l1 : (len : Int) ≤ 1000000 := by omega
  gi_wp2
  gi_loopw [7] (fun i wr => ∃ m : Nat, m ≤ len ∧ i = .int .i64 (m : Int) ∧ J (up zs m) wr ∧ keepS [Ba, Bn, ba, bn] W wr)
    (fun i _ => len - (intOf i).toNat)
  case atStart => exact ⟨0, Nat.zero_le _, rfl, h0, fun _ _ => rfl⟩
  case round =>
    obtain ⟨m, hm, rfl, hJs, hnx⟩ := hrel
    by_cases hlt : m < len
    · have e1 : wr.cell? ⟨Ba, 0, none⟩ = some (.slice pa len ca) := (hnx ⟨Ba, 0, none⟩ (by simp)).trans hBa
      have e2 : wr.cell? ⟨Bn, 0, none⟩ = some (.slice pn len cn) := (hnx ⟨Bn, 0, none⟩ (by simp)).trans hBn
      have m1 : (m : Int) < (len : Int) := by omega
      have m0 : 0 ≤ (m : Int) := by omega
      obtain ⟨a0, a1, a2, a3⟩ := hca m hlt
      obtain ⟨b0, b1, b2, b3⟩ := hcn m hlt
      rw [← hnx ⟨ba, _, none⟩ (by simp)] at a0 a1 a2 a3
      rw [← hnx ⟨bn, _, none⟩ (by simp)] at b0 b1 b2 b3
      have ln1 : (loadVar 24 ⟨ba, oa + m * 4, none⟩).run Try.prog wr.drew = .ok (num (zs m).1.1) wr.drew := liesAt.load ⟨a0, a1, a2, a3⟩
      have ln2 : (loadVar 24 ⟨bn, on + m * 4, none⟩).run Try.prog wr.drew = .ok (num (zs m).1.2) wr.drew := liesAt.load ⟨b0, b1, b2, b3⟩
      obtain rfl := hpa (by omega)
      obtain rfl := hpn (by omega)
      have ls1 : (loadVar 53 ⟨Ba, 0, none⟩).run Try.prog wr.drew = .ok (.slice (some ⟨ba, oa, none⟩) len ca) wr.drew := load_cell (w := wr.drew) e1
      have ls2 : (loadVar 53 ⟨Bn, 0, none⟩).run Try.prog wr.drew = .ok (.slice (some ⟨bn, on, none⟩) len cn) wr.drew := load_cell (w := wr.drew) e2
      clear a0 a1 a2 a3 b0 b1 b2 b3
      obtain ⟨fn, tmps, assign, body, hy, hR⟩ := hY _ (zs m) wr.drew (hJd _ _ hJs) (by rw [up_length]; omega)
      replace hJs := Held.mk hJs
      replace hnx := Held.mk hnx
      replace hca := Held.mk hca
      replace hcn := Held.mk hcn
      replace hBa := Held.mk hBa
      replace hBn := Held.mk hBn
      replace hY := Held.mk hY
      replace hJd := Held.mk hJd
      clear h0
      gi_upto_region 3 with fail
      refine' wpIn_region_reads [0, 0, 0, 0, 0, 0, 0, 0, 0, 2, 2] 1 mixed hro rfl rfl (by kernel_rfl) (by kernel_rfl) (fun K hK => ?_)
      repeat ((first | (refine' hr_load rfl rfl rfl ls1 ?ha ?_) | (refine' hr_load rfl rfl rfl ls2 ?ha ?_) | (refine' hr_load rfl rfl rfl ln1 ?ha ?_) | (refine' hr_load rfl rfl rfl ln2 ?ha ?_) | (refine hr_tail ?_) | (refine' hr_read rfl rfl ?hq ?ha ?_; (case hq => go_simp; first | done | rfl))); try (case ha => simp only [kP, kQ, kA, kB]; try rfl))
      refine hr_nil (hK _ ?_)
      clear hK K
      refine wpAnyIn_ready (rs := [9]) (by kernel_rfl) (by simp) ?_
      refine AllReadyIn.cons rfl (fun K hK => ?_) AllReadyIn.nil
      clear ln1 ln2 ls1 ls2
      replace hK := Held.mk hK
      go_simp
      refine hR.mono ?_
      rintro e W3 (⟨rfl, hJ3, hk3⟩ | ⟨rfl, hJx3⟩)
      · refine hK.out _ _ ?_
        clear hK K
        refine wpAnyIn_ready (rs := [10]) (by kernel_rfl) (by simp) ?_
        refine AllReadyIn.cons rfl (fun K hK => ?_) AllReadyIn.nil
        replace hK := Held.mk hK
        go_simp
        refine hK.out _ _ ?_
        clear hK K
        refine wpAnyIn_done (by kernel_rfl) ?_ _
        gi_wp2
        go_roundw
        case rel => exact ⟨m + 1, by omega, by simp, by rw [up_succ]; exact hJ3, keepS_t hnx.out hk3⟩
        case measure => simp [intOf]; omega
      · refine hK.out _ _ ?_
        clear hK K
        refine wpAnyIn_ready (rs := [10]) (by kernel_rfl) (by simp) ?_
        refine AllReadyIn.cons rfl (fun K hK => ?_) AllReadyIn.nil
        replace hK := Held.mk hK
        go_simp
        refine hK.out _ _ ?_
        clear hK K
        refine wpAnyIn_done (by kernel_rfl) ?_ _
        gi_wp2
        refine bodyPost_ret (results_none rfl _ _ _) rfl ?_
        exact ⟨⟨_, rfl⟩, .inr ⟨_, ⟨m + 1, by omega, (up_succ zs m).symm⟩, hJx3⟩⟩
    · gi_wp2
      go_end0
      exact ⟨⟨_, rfl⟩, .inl ⟨_, rfl, by rw [show len = m by omega]; exact hJs⟩⟩

/-- What groups.pairs hands back: a function that hands out the pairs. -/
theorem pairs_stops (F : Fence) (n : Nat) (h7 : F.fn 130) (hro : F.round = none) (hn : 1 ≤ n) (Ba Bn ba bn oa on len ca cn : Nat) (pa pn : Option Addr) (zs : Nat → Pair) (hlen : len ≤ 1000000) (hpa : 0 < len → pa = some ⟨ba, oa, none⟩) (hpn : 0 < len → pn = some ⟨bn, on, none⟩) (w : World) (hb : ∀ b ∈ [Ba, Bn, ba, bn], b < w.heap.size)
    (hBa : w.cell? ⟨Ba, 0, none⟩ = some (.slice pa len ca)) (hBn : w.cell? ⟨Bn, 0, none⟩ = some (.slice pn len cn)) (hca : ∀ j, j < len → liesAt w ba (oa + j * 4) (zs j).1.1) (hcn : ∀ j, j < len → liesAt w bn (on + j * 4) (zs j).1.2) :
    SeqStopsK F n Try.prog 130 #[.pointer (some ⟨Ba, 0, none⟩), .pointer (some ⟨Bn, 0, none⟩)] (fun x : Pair => #[num x.1.1, num x.1.2]) (keepS [Ba, Bn, ba, bn]) (fun ys => ys = up zs len) (fun pre => ∃ m, m ≤ len ∧ pre = up zs m) len w := fun l J Jx W hW hJa _ hY h0 => by
  have kp : ∀ p : Addr, p.block ∈ [Ba, Bn, ba, bn] → ∀ v, w.cell? p = some v → W.cell? p = some v := fun p hp v hv => (hW.cell (p := p) (by exact hb _ hp)).trans hv
  refine pairs1_in F n h7 hro hn l Ba Bn ba bn oa on len ca cn pa pn zs hlen hpa hpn J Jx ?hJd hY W (kp _ (by simp) _ hBa) (kp _ (by simp) _ hBn) (fun j hj => ?h1) (fun j hj => ?h2) h0
  case h1 =>
    obtain ⟨a0, a1, a2, a3⟩ := hca j hj
    exact ⟨kp _ (by simp) _ a0, kp _ (by simp) _ a1, kp _ (by simp) _ a2, kp _ (by simp) _ a3⟩
  case h2 =>
    obtain ⟨a0, a1, a2, a3⟩ := hcn j hj
    exact ⟨kp _ (by simp) _ a0, kp _ (by simp) _ a1, kp _ (by simp) _ a2, kp _ (by simp) _ a3⟩
  case hJd =>
    intro s W2 hs
    exact hJa s W2 W2.drew none hs ⟨rfl, rfl, rfl, Nat.le_refl _, fun _ _ _ => rfl⟩ (fun r e => by cases e)
end Go.Proofs.Ytdmdkdodfngjiaa
