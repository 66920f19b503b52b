/- The contract of duals.others: the numbers of nodes but one, handed out one by one. -/
import Derived.Test.YtgfoeongjhkdmaaUZ
import Derived.Test.YtgfoeongjhkdmaaUI
import Derived.Test.YtgfoeongjhkdmaaUO
import Derived.Test.YtgfoeongjhkdmaaUF
import Derived.Defers
import Derived.Recover
import Derived.Test.YtgfoeongjhkdmaaUA
import Derived.Test.YtgfoeongjhkdmaaUQ
set_option linter.unusedVariables false
set_option linter.unusedSimpArgs false
namespace Go.Proofs.Ytgfoeongjhkdmaa
open Go.RowKit
attribute [local go_sem] Oper.semAt_some
section
variable {F : Fence} {n0 : Nat} {P : Program} {ops : Array Oper} {rest : List Oper} {o : Oper} {a : Act} {w : World} {Q : Exit → Act → World → Prop}
theorem in_unw (hw : Region.wanted o (yielded ops a.tmps) = false) (hab : o.about P w a.eval = none) (h : wpListIn F n0 P ops Q rest (a.put o.dst undef) w) : wpListIn F n0 P ops Q (o :: rest) a w := by
  unfold wpListIn
  rw [if_neg (by rw [hw]; exact Bool.false_ne_true)]
  exact ⟨fun f hf => (by rw [hab] at hf; cases hf), h⟩
end
abbrev Oth (len i0 : Nat) := { k : Nat // k < len ∧ k ≠ i0 }
def othL (len i0 m : Nat) : List (Oth len i0) := (List.range m).filterMap fun k => if h : k < len ∧ k ≠ i0 then some ⟨k, h⟩ else none
theorem othL_same {len i0 : Nat} : othL len i0 (i0 + 1) = othL len i0 i0 := by
  unfold othL
  rw [List.range_succ, List.filterMap_append]
  simp
theorem othL_next {len i0 m : Nat} (h : m < len ∧ m ≠ i0) : othL len i0 (m + 1) = othL len i0 m ++ [⟨m, h⟩] := by
  unfold othL
  rw [List.range_succ, List.filterMap_append]
  simp [h]
theorem othL_len (len i0 m : Nat) : (othL len i0 m).length ≤ m := by
  have := List.length_filterMap_le (fun k => if h : k < len ∧ k ≠ i0 then some (⟨k, h⟩ : Oth len i0) else none) (List.range m)
  simpa [othL] using this
set_option maxRecDepth 100000 in
set_option maxHeartbeats 2000000 in
theorem othersN1_in (F : Fence) (n : Nat) (h7 : F.fn 83) (hro : F.round = none) (hn : 1 ≤ n) (l Bn Bi len i0 : Nat) (hlen : len ≤ 1000000) (hi0 : i0 ≤ 1000000) (J Jx : List (Oth len i0) → World → Prop)
    (hY : ∀ pre (x : Oth len i0) W, J pre W → pre.length < len → YieldAt F (n - 1) Try.prog l #[.int .i64 ((x.1 : Int) + 1)] W fun e W' =>
      (e = .returned (.bool true) ∧ J (pre ++ [x]) W' ∧ keepS [Bn, Bi] W W') ∨ (e = .returned (.bool false) ∧ Jx (pre ++ [x]) W'))
    (W : World) (hBn : W.cell? ⟨Bn, 0, none⟩ = some (.int .i64 (len : Int))) (hBi : W.cell? ⟨Bi, 0, none⟩ = some (.int .i64 ((i0 : Int) + 1))) (h0 : J [] W) :
    CallsIn F n Try.prog 83 #[.func (.yield l) #[] #[], .pointer (some ⟨Bn, 0, none⟩), .pointer (some ⟨Bi, 0, none⟩)] W fun e W' => (∃ v, e = .returned v) ∧
      ((∃ ys, ys = othL len i0 len ∧ J ys W') ∨ (∃ pre, True ∧ Jx pre W')) := by
  refine callsIn_of_wp Try.func83 rfl h7 ?_ hro
  simp only [Try.ntmps83, List.size_toArray, List.length_cons, List.length_nil, Nat.reduceAdd, Nat.reduceSub, Array.replicate_succ, Array.replicate_zero, List.push_toArray, List.append_toArray, List.nil_append, List.cons_append]
  gi_wp2
  gi_loopw [4] (fun i wr => ∃ m : Nat, m ≤ len ∧ i = .int .i64 ((m : Int) + 1) ∧ J (othL len i0 m) wr ∧ keepS [Bn, Bi] W wr)
    (fun i _ => ((len : Int) + 1 - intOf i).toNat)
  case atStart => exact ⟨0, Nat.zero_le _, rfl, h0, fun _ _ => rfl⟩
  case round =>
    obtain ⟨m, hm, rfl, hJs, hnx⟩ := hrel
    have hbn : wr.cell? ⟨Bn, 0, none⟩ = some (.int .i64 (len : Int)) := (hnx ⟨Bn, 0, none⟩ (by simp)).trans hBn
    have hbi : wr.cell? ⟨Bi, 0, none⟩ = some (.int .i64 ((i0 : Int) + 1)) := (hnx ⟨Bi, 0, none⟩ (by simp)).trans hBi
    have ln : (loadVar 3 ⟨Bn, 0, none⟩).run Try.prog wr = .ok (.int .i64 (len : Int)) wr := load_cell hbn
    have li : (loadVar 3 ⟨Bi, 0, none⟩).run Try.prog wr = .ok (.int .i64 ((i0 : Int) + 1)) wr := load_cell hbi
    have ek : IntKind.i64.wrap ((m : Int) + 1 + 1) = ((m + 1 : Nat) : Int) + 1 := by rw [IntKind.wrap_i64]; omega
    by_cases hml : m = len
    · subst hml
      have t1 : ¬ (m : Int) + 1 ≤ (m : Int) := by omega
      gi_wp2_with (first | (refine' in_unw rfl rfl ?_) | (refine' in_loadP rfl rfl rfl ln ?_) | (refine' in_loadP rfl rfl rfl li ?_))
      go_end0
      exact ⟨⟨_, rfl⟩, .inl hJs⟩
    · have t1 : (m : Int) + 1 ≤ (len : Int) := by omega
      by_cases hmi : m = i0
      · subst hmi
        have t2 : ((m : Int) + 1 != (m : Int) + 1) = false := by simp
        gi_wp2_with (first | (refine' in_unw rfl rfl ?_) | (refine' in_loadP rfl rfl rfl ln ?_) | (refine' in_loadP rfl rfl rfl li ?_))
        go_roundw
        case rel => exact ⟨m + 1, by omega, by rw [← ek]; simp [IntKind.wrap_i64]; omega, by rw [othL_same]; exact hJs, hnx⟩
        case measure => simp [intOf]; omega
      · have t2 : ((m : Int) + 1 != (i0 : Int) + 1) = true := by simp; omega
        have t3 : ((m : Int) + 1 == (i0 : Int) + 1) = false := by simp; omega
        have t4 : ¬ (m : Int) + 1 = (i0 : Int) + 1 := by omega
        obtain ⟨fn, tmps, assign, body, hy, hR⟩ := hY _ ⟨m, by omega, hmi⟩ wr hJs (by have := othL_len len i0 m; omega)
        dsimp only at hy
        gi_wp2_with (first | (refine' in_unw rfl rfl ?_) | (refine' in_loadP rfl rfl rfl ln ?_) | (refine' in_loadP rfl rfl rfl li ?_))
        refine hR.mono ?_
        rintro e W3 (⟨rfl, hJ3, hk3⟩ | ⟨rfl, hJx3⟩)
        · gi_wp2
          go_roundw
          case rel => exact ⟨m + 1, by omega, by rw [← ek]; simp [IntKind.wrap_i64]; omega, by rw [othL_next ⟨by omega, hmi⟩]; exact hJ3, keepS_t hnx hk3⟩
          case measure => simp [intOf]; omega
        · gi_wp2
          refine bodyPost_ret (results_none rfl _ _ _) rfl ?_
          exact ⟨⟨_, rfl⟩, .inr ⟨_, trivial, hJx3⟩⟩
theorem others_stops (F : Fence) (n : Nat) (h7 : F.fn 83) (hro : F.round = none) (hn : 1 ≤ n) (Bn Bi len i0 : Nat) (hlen : len ≤ 1000000) (hi0 : i0 ≤ 1000000) (w : World) (hb : ∀ x ∈ [Bn, Bi], x < w.heap.size)
    (hBn : w.cell? ⟨Bn, 0, none⟩ = some (.int .i64 (len : Int))) (hBi : w.cell? ⟨Bi, 0, none⟩ = some (.int .i64 ((i0 : Int) + 1))) :
    SeqStopsK F n Try.prog 83 #[.pointer (some ⟨Bn, 0, none⟩), .pointer (some ⟨Bi, 0, none⟩)] (fun x : Oth len i0 => #[Value.int .i64 ((x.1 : Int) + 1)]) (keepS [Bn, Bi]) (fun ys => ys = othL len i0 len) (fun _ => True) len w := fun l J Jx W hW _ _ hY h0 => by
  have kp : ∀ p : Addr, p.block ∈ [Bn, Bi] → ∀ v, w.cell? p = some v → W.cell? p = some v := fun p hp v hv => (hW.cell (p := p) (by exact hb _ hp)).trans hv
  exact othersN1_in F n h7 hro hn l Bn Bi len i0 hlen hi0 J Jx hY W (kp _ (by simp) _ hBn) (kp _ (by simp) _ hBi) h0
set_option maxRecDepth 100000 in
set_option maxHeartbeats 1000000 in
theorem dothers_any (i0 : Int) (len : Int) (w : World) :
    Calls Try.prog 64 #[.int .i64 i0, .int .i64 len] w fun e w' => e = .returned (.func (.func 83) #[] #[.pointer (some ⟨w.heap.size + 1, 0, none⟩), .pointer (some ⟨w.heap.size, 0, none⟩)]) ∧ w' = (w.alloc (.cells #[.int .i64 i0] 3)).alloc (.cells #[.int .i64 len] 3) := by
  go_enter Try.func64, Try.ntmps64
  go_wp2
  go_ret
  exact ⟨rfl, rfl⟩
end Go.Proofs.Ytgfoeongjhkdmaa
namespace Go.Proofs.Ytgfoeongjhkdmaa
open Go.RowKit
def coll (D : Nat) : Deferred := { target := .collected D, args := #[] }
def marks (Ds : List Nat) : List (Nat × Obj) := Ds.map fun D => (D, .deferred (some []))
theorem marks_mem {Ds : List Nat} {p : Nat × Obj} (h : p ∈ marks Ds) : p.1 ∈ Ds ∧ p.2 = .deferred (some []) := by
  obtain ⟨D, hD, rfl⟩ := List.mem_map.1 h
  exact ⟨hD, rfl⟩
theorem marks_fst : ∀ Ds : List Nat, (marks Ds).map (·.1) = Ds
  | [] => rfl
  | D :: Ds => congrArg (D :: ·) (marks_fst Ds)
theorem mem_marks {Ds : List Nat} {D : Nat} (h : D ∈ Ds) : (D, Obj.deferred (some [])) ∈ marks Ds := List.mem_map.2 ⟨D, h, rfl⟩
section
variable {B0 : Nat} {w0 w W : World} {L : List (Nat × Obj)}
theorem rep_marks (hw : Rep B0 w0 L W) (hL : ∀ p, p ∈ L → p.2.isCells = true) : ∀ {Ds : List Nat}, (∀ D, D ∈ Ds → W.heap[D]? = some (.deferred (some [])) ∧ B0 ≤ D) → Ds.Nodup → Rep B0 w0 (marks Ds ++ L) W
  | [], _, _ => hw
  | D :: Ds, h, hn => by
    have ih := rep_marks hw hL (Ds := Ds) (fun D hD => h D (.tail _ hD)) (List.nodup_cons.1 hn).2
    refine ih.add (h D (.head _)).2 (h D (.head _)).1 fun p hp e => ?_
    rcases List.mem_append.1 hp with hp | hp
    · rw [← e] at hn
      exact (List.nodup_cons.1 hn).1 (marks_mem hp).1
    · have h1 := (hw.own p hp).2
      have h2 := hL p hp
      rw [e, (h D (.head _)).1] at h1
      rw [← Option.some.inj h1] at h2
      cases h2
theorem leaves_marks {F : Fence} {n : Nat} {P : Program} {fn : Func} {tmps : Array Value} {R : Ending → World → Prop} : ∀ (Ds : List Nat) (W : World), Rep B0 w0 (marks Ds ++ L) W → (∀ W', Rep B0 w0 L W' → LeavesIn F n P fn tmps R [] .returning W') → LeavesInM F n P fn tmps R (Ds.map coll) .returning W
  | [], W, hR, h => h W hR
  | D :: Ds, W, hR, h => by
    have hR0 : Rep B0 w0 ((D, .deferred (some [])) :: (marks Ds ++ L)) W := hR
    exact ⟨by simp, .inl ⟨D, _, rfl, run_takeDeferred (hR0.own _ (List.Mem.head _)).2, leaves_marks Ds _ (hR0.putHead (.deferred none)) h⟩⟩
theorem loop_whileD {α : Type} {P : Program} {c : Code} {Q : Exit → Act → World → Prop} {l : List Value} (mask : List Bool) (upd : α → List Value → List Value) (dd : α → List Deferred) (LL : α → List (Nat × Obj)) (μ : α → Nat) (Ok : α → Prop) (x0 : α)
    (h0 : agree mask (upd x0 l) l) (hO : Ok x0) (hR : Rep B0 w0 (LL x0) w)
    (hs : ∀ x tm w, Ok x → agree mask (upd x l) tm → Rep B0 w0 (LL x) w → ∀ K : Act → World → Prop, Held (∀ y tm' w', Ok y → μ y < μ x → agree mask (upd y l) tm' → Rep B0 w0 (LL y) w' → K ⟨tm'.toArray, dd y⟩ w') → c.wp P (Exit.then K Q) ⟨tm.toArray, dd x⟩ w) : (Code.loop c).wp P Q ⟨l.toArray, dd x0⟩ w := by
  have key : ∀ n x, μ x ≤ n → Ok x → ∀ tm w, agree mask (upd x l) tm → Rep B0 w0 (LL x) w → Code.rounds P c Q (n + 1) ⟨tm.toArray, dd x⟩ w := by
    intro n
    induction n with
    | zero => intro x hx hO tm w h1 h2; exact hs x tm w hO h1 h2 _ ⟨fun y tm' w' _ hy _ _ => by omega⟩
    | succ n ih =>
      intro x hx hO tm w h1 h2
      exact hs x tm w hO h1 h2 _ ⟨fun y tm' w' hO' hy h1' h2' => ih y (by omega) hO' tm' w' h1' h2'⟩
  exact wp_loop_rounds (μ x0 + 1) (key (μ x0) x0 (Nat.le_refl _) hO l w h0 hR)
noncomputable def slotsO {n i : Nat} (l : List Value) (x : Oth n i) : List Value := (l.set 28 (.int .i64 ((x.1 : Int) + 1))).set 5 (.int .i64 ((x.1 : Int) + 1))
theorem range_others {n i : Nat} {Q : Exit → Act → World → Prop} {l : List Value} {ac bc : Code} (Ds : List Nat) (Bn Bi : Nat) (LL : List (Oth n i) → List (Nat × Obj))
    (hg : (Act.mk l.toArray (Ds.map coll)).eval (.tmp 27) = .func (.func 83) #[] #[.pointer (some ⟨Bn, 0, none⟩), .pointer (some ⟨Bi, 0, none⟩)])
    (hn : n ≤ 1000000) (hi : i ≤ 1000000) (hBn : ∀ pre, (Bn, Obj.cells [Value.int .i64 (n : Int)].toArray 3) ∈ LL pre) (hBi : ∀ pre, (Bi, Obj.cells [Value.int .i64 ((i : Int) + 1)].toArray 3) ∈ LL pre)
    (hR : Rep B0 w0 (marks Ds ++ LL []) w) (hL : ∀ pre p, p ∈ LL pre → p.2.isCells = true)
    (hvars : ∀ (k : Nat) (pre : List (Oth n i)) (x : Oth n i) (W : World) (K : Act → World → Prop), RK W B0 w0 (LL pre) W → (∀ W', RK W B0 w0 (LL pre) W' → K ⟨(slotsO l x).toArray, []⟩ W') →
      ac.wpIn (Fence.wide.inRound k) 3 Try.prog (Exit.then K (fun _ _ _ => False)) ⟨(l.set 28 (.int .i64 ((x.1 : Int) + 1))).toArray, []⟩ W)
    (hbody : ∀ (k : Nat) (pre : List (Oth n i)) (x : Oth n i) (W : World), RK W B0 w0 (LL pre) W →
      bc.wpIn (Fence.wide.inRound k) 3 Try.prog (roundPost W B0 w0 (LL (pre ++ [x])) [] True False) ⟨(slotsO l x).toArray, []⟩ W)
    (hdone : ∀ (D : Nat) (W : World), Rep B0 w0 (marks (D :: Ds) ++ LL (othL n i n)) W → Q .normal ⟨l.toArray, (D :: Ds).map coll⟩ W) :
    (Code.rangeFunc (.tmp 27) #[28] ac bc).wp Try.prog Q ⟨l.toArray, Ds.map coll⟩ w := by
  refine (wpIn_wide (n := 5)).1 ?_
  have hR0 : Rep B0 w0 (LL []) w := hR.weaken (List.sublist_append_right _ _)
  have hDs : ∀ D, D ∈ Ds → w.heap[D]? = some (.deferred (some [])) ∧ B0 ≤ D ∧ D < w.heap.size := fun D hD => by
    have h1 := hR.own _ (List.mem_append_left _ (mem_marks hD))
    exact ⟨h1.2, h1.1, (Array.getElem?_eq_some_iff.1 h1.2).1⟩
  have hNd : Ds.Nodup := by
    have := hR.uniq
    rw [List.map_append] at this
    have h2 := (List.nodup_append.1 this).1
    rw [marks_fst] at h2
    exact h2
  have own : OwnFrom w.heap.size (fun s W => Rep B0 w0 (LL s) W ∧ ∀ D, D ∈ Ds → W.heap[D]? = some (.deferred (some []))) := fun s W W' row h hg hr =>
    ⟨rep_ownP hR.le hL s W W' row h.1 hg hr, fun D hD => by
      have hlt : D < W.heap.size := (Array.getElem?_eq_some_iff.1 (h.2 D hD)).1
      rw [hg.block D hlt (fun e => by have := (hr D e.symm).1; have := (hDs D hD).2.2; omega)]
      exact h.2 D hD⟩
  have hb : ∀ x ∈ [Bn, Bi], x < w.heap.size := fun x hx => by
    simp only [List.mem_cons, List.not_mem_nil, or_false] at hx
    rcases hx with rfl | rfl
    · exact hR0.lt (hBn [])
    · exact hR0.lt (hBi [])
  have hkeep : ∀ (pre pre' : List (Oth n i)) (W W' : World), Rep B0 w0 (LL pre) W → Rep B0 w0 (LL pre') W' → keepS [Bn, Bi] W W' := fun pre pre' W W' hw hw' p hp => by
    refine World.cell?_of_block ?_
    simp only [List.mem_cons, List.not_mem_nil, or_false] at hp
    rcases hp with e | e <;> rw [e]
    · exact (hw'.own _ (hBn pre')).2.trans (hw.own _ (hBn pre)).2.symm
    · exact (hw'.own _ (hBi pre')).2.trans (hw.own _ (hBi pre)).2.symm
  refine xCp rfl (by decide) (gf := 83) (lb := #[.pointer (some ⟨Bn, 0, none⟩), .pointer (some ⟨Bi, 0, none⟩)]) hg trivial (fun args w => xBi Try.func83 (by kernel_rfl) (by kernel_rfl) args w)
    (others_stops Fence.wide 4 trivial rfl (by decide) Bn Bi n i hn hi w hb (hR0.cell (off := 0) (hBn []) rfl) (hR0.cell (off := 0) (hBi []) rfl)) keepS_t (keepS_b hb) (fun _ => rfl)
    (fun pre W => Rep B0 w0 (LL pre) W ∧ ∀ D, D ∈ Ds → W.heap[D]? = some (.deferred (some []))) (fun pre x b W => b = ⟨(slotsO l x).toArray, []⟩ ∧ Rep B0 w0 (LL pre) W ∧ ∀ D, D ∈ Ds → W.heap[D]? = some (.deferred (some []))) (fun c pre W => False)
    own (fun x b => ?own1) (fun c => fun _ _ _ _ h _ _ => h) ⟨hR0, fun D hD => (hDs D hD).1⟩ ?vars ?body ?done ?stop
  case own1 =>
    rintro pre W W' row ⟨hc, h⟩ hg hr
    exact ⟨hc, own pre W W' row h hg hr⟩
  case vars =>
    rintro k pre x W K ⟨hw, hd⟩ hl hK
    have hz : ((#[28] : Array Tmp).zip (#[Value.int .i64 ((x.1 : Int) + 1)])).foldl (fun t (x : Tmp × Value) => t.setIfInBounds x.1 x.2) l.toArray = (l.set 28 (Value.int .i64 ((x.1 : Int) + 1))).toArray := by simp
    rw [hz]
    refine hvars k pre x W K ⟨hw, KeepsOthers.refl W⟩ fun W' hw' => ?_
    exact hK _ W' hw'.kept (hkeep pre pre W W' hw hw'.rep) ⟨rfl, hw'.rep, fun D hD => hw'.kept.same _ _ (hd D hD) rfl⟩
  case body =>
    rintro k pre x b W ⟨rfl, hw, hd⟩
    refine wpIn_mono (hbody k pre x W ⟨hw, KeepsOthers.refl W⟩) ?_
    rintro e a' W' hp
    cases e with
    | normal => exact ⟨hp.1.kept, hkeep pre _ W W' hw hp.1.rep, hp.1.rep, fun D hD => hp.1.kept.same _ _ (hd D hD) rfl⟩
    | ret => exact hp.2.elim
    | exit id => exact hp.elim
    | goto t => exact hp.elim
    | panic ch => exact hp.elim
    | outgrown => exact hp.elim
  case done =>
    rintro D ys W hle rfl ⟨hw, hd⟩ hD
    refine hdone D W (rep_marks hw (hL _) ?_ ?_)
    · intro D' hD'
      rcases List.mem_cons.1 hD' with rfl | hD'
      · exact ⟨hD, by have := hR.le; omega⟩
      · exact ⟨hd _ hD', (hDs _ hD').2.1⟩
    · exact List.nodup_cons.2 ⟨fun hm => by have := (hDs D hm).2.2; omega, hNd⟩
  case stop =>
    rintro D c pre W hle _ h hD
    exact h.elim
end
end Go.Proofs.Ytgfoeongjhkdmaa
namespace Go.Proofs.Ytgfoeongjhkdmaa
open Go.RowKit
attribute [local irreducible] Calls
section
variable {B0 : Nat} {w0 w : World} {L L' : List (Nat × Obj)}
theorem must_ok (x : Nat) (w : World) : Calls Try.prog 63 #[num x, .int .i64 0] w fun e w' => e = .returned (num x) ∧ Below w.heap.size w w' := by
  have hR := Rep.init w
  go_enter Try.func63, Try.ntmps63
  go_wp2_with (first | (refine' xAb hR rfl rfl rfl ?_; clear hR; intro blk w hR) | (refine' xAa hR rfl rfl inferInstance ?_; clear hR; intro blk w hR) | (refine' aFq hR rfl rfl rfl inferInstance ?_) | (refine' aGq hR rfl rfl rfl inferInstance ?_) | (refine' aHq hR rfl rfl rfl inferInstance ?_) | (refine' aIq hR rfl rfl rfl inferInstance rfl ?_; clear hR; intro w hR) | (refine' aJq hR rfl rfl rfl inferInstance rfl rfl ?_; clear hR; intro w hR) | fail)
  (refine' bodyPost_ret (xBr Try.results63 rfl (hR.loadAll (P := Try.prog) (ty := 24) ?hm ?hn)) rfl ⟨?_, hR.below⟩; (case hm => first | with_reducible assumption | repeat (first | exact .head _ | with_reducible assumption | apply mC)); (case hn => first | rfl | simp))
  rfl
set_option maxRecDepth 100000 in
theorem caught_idle (b2 b3 : Nat) (hR : Rep B0 w0 L w) : CallsD Try.prog 82 #[.pointer (some ⟨b2, 0, none⟩), .pointer (some ⟨b3, 0, none⟩)] .returning w fun e u' w' => e = .returned (.tuple #[]) ∧ u' = .returning ∧ Rep B0 w0 L w' := by
  refine callsD_of_wpS Try.func82 rfl fun c₀ cs hu => ?_
  apply wpS_seq
  apply wpS_region
  simp [wpOpsS, go_sem, recoverD, hu, Try.ntmps82, Exit.thenS]
  refine wpS_of_wp ?_
  simp only [Array.replicate_succ, Array.replicate_zero, List.push_toArray, List.append_toArray, List.nil_append, List.cons_append, List.setIfInBounds_toArray, List.set_cons_succ, List.set_cons_zero]
  go_wp2_with (first | (refine' xAb hR rfl rfl rfl ?_; clear hR; intro blk w hR) | (refine' xAa hR rfl rfl inferInstance ?_; clear hR; intro blk w hR) | (refine' aFq hR rfl rfl rfl inferInstance ?_) | (refine' aGq hR rfl rfl rfl inferInstance ?_) | (refine' aHq hR rfl rfl rfl inferInstance ?_) | (refine' aIq hR rfl rfl rfl inferInstance rfl ?_; clear hR; intro w hR) | (refine' aJq hR rfl rfl rfl inferInstance rfl rfl ?_; clear hR; intro w hR) | fail)
  cases c₀
  simp_all [bodyPostS, results, Try.results82]
theorem assert_stop (k : Int) (xT : TypeId) (w : World) : (Instr.typeAssert (.iface 99 (.agg #[.int .i64 k])) xT 99 true).run Try.prog w = .ok (.tuple #[.agg #[.int .i64 k], .bool true]) w := by kernel_rfl
instance zeroIntD : ZeroT Try.prog 3 [.int .i64 0] := ⟨.int .i64 0, by kernel_rfl, rfl⟩
instance zeroErrD : ZeroT Try.prog 29 [.int .i64 0] := ⟨.int .i64 0, by kernel_rfl, rfl⟩
instance zeroStop : ZeroT Try.prog 99 [.int .i64 0] := ⟨.agg #[.int .i64 0], by kernel_rfl, rfl⟩
instance rowStop : RowT Try.prog 99 1 := .mk' (by kernel_rfl) (by kernel_rfl)
set_option maxRecDepth 100000 in
theorem caught_panic (b2 b3 : Nat) (k : Int) (hR : Rep B0 w0 ((b3, .cells [.int .i64 0].toArray 29) :: (b2, .cells [.int .i64 0].toArray 3) :: L) w) : CallsD Try.prog 82 #[.pointer (some ⟨b2, 0, none⟩), .pointer (some ⟨b3, 0, none⟩)] (.panicking [{ v := .iface 99 (.agg #[.int .i64 k]), recovered := false }]) w fun e u' w' => e = .returned (.tuple #[]) ∧ u' = .panicking [{ v := .iface 99 (.agg #[.int .i64 k]), recovered := true }] ∧ Rep B0 w0 ((b3, .cells [.int .i64 k].toArray 29) :: (b2, .cells [.int .i64 1].toArray 3) :: L) w' := by
  have hta := assert_stop k
  replace hR := Held.mk hR
  refine callsD_of_wpS Try.func82 rfl fun c₀ cs hu => ?_
  apply wpS_seq
  apply wpS_region
  simp [wpOpsS, go_sem, recoverD, hu, Try.ntmps82, Exit.thenS]
  refine wpS_of_wp ?_
  simp only [Array.replicate_succ, Array.replicate_zero, List.push_toArray, List.append_toArray, List.nil_append, List.cons_append, List.setIfInBounds_toArray, List.set_cons_succ, List.set_cons_zero]
  replace hR := hR.out
  go_wp2_with (first | (refine' xAb hR rfl rfl rfl ?_; clear hR; intro blk w hR) | (refine' xAa hR rfl rfl inferInstance ?_; clear hR; intro blk w hR) | (refine' aFq hR rfl rfl rfl inferInstance ?_) | (refine' aGq hR rfl rfl rfl inferInstance ?_) | (refine' aHq hR rfl rfl rfl inferInstance ?_) | (refine' aIq hR rfl rfl rfl inferInstance rfl ?_; clear hR; intro w hR) | (refine' aJq hR rfl rfl rfl inferInstance rfl rfl ?_; clear hR; intro w hR) | fail)
  try simp only [Act.put, kA, kB, List.setIfInBounds_toArray]
  refine xAi hR [1, 1, 2, 2] [0] xCf (by kernel_rfl) rfl rfl (fun K hK => ?_)
  clear hR
  repeat ((first | (refine xBl ?_) | (refine' xAr (by decide) rfl (.inl rfl) rfl ?ha ?_) | (refine' xAr (by decide) rfl (.inr rfl) rfl ?ha ?_) | (refine' xAp rfl rfl rfl inferInstance ?hm ?hn ?ha ?_; (case hm => first | with_reducible assumption | repeat (first | exact .head _ | with_reducible assumption | apply mC)); (case hn => first | rfl | simp)) | (refine' xAk rfl rfl rfl inferInstance ?hm ?hv ?hn ?ha ?_; (case hm => first | with_reducible assumption | repeat (first | exact .head _ | with_reducible assumption | apply mC)); (case hv => first | with_reducible assumption | (simp only [kC, kD, kE, kF]; try rfl)); (case hn => first | rfl | simp)) | (refine' xAf rfl rfl rfl inferInstance ?hm ?hv ?ha ?_; (case hm => first | with_reducible assumption | repeat (first | exact .head _ | with_reducible assumption | apply mC)); (case hv => first | rfl | with_reducible assumption)) | (refine' xAl rfl rfl rfl inferInstance ?hm ?hv ?hn ?ha ?_; (case hm => first | with_reducible assumption | repeat (first | exact .head _ | with_reducible assumption | apply mC)); (case hv => first | with_reducible assumption | (simp only [kC, kD, kE, kF]; try rfl)); (case hn => first | rfl | simp)) | (refine' xAe rfl rfl rfl inferInstance ?hm ?hv ?ha ?_; (case hm => first | with_reducible assumption | repeat (first | exact .head _ | with_reducible assumption | apply mC)); (case hv => first | rfl | with_reducible assumption)) | ((first | refine' xAd (by decide) rfl rfl rfl rfl (fun w => ?hq) ?ha ?_ | refine' xBb (by decide) rfl rfl rfl rfl (fun w => ?hq) ?ha ?_ | refine' xAm (by decide) rfl rfl rfl (fun w => ?hq) ?ha ?_ | refine' xAc (by decide) rfl rfl rfl (fun w => ?hq) ?ha ?_ | refine' xAo (by decide) rfl rfl rfl (fun w => ?hq) ?ha ?_ | refine' xBd (by decide) rfl rfl rfl rfl (fun w => ?hq) ?ha ?_ | refine' xBa (by decide) rfl rfl rfl rfl rfl rfl (fun w => ?hq) ?ha ?_ | refine' xBe (by decide) rfl rfl (fun w => ?hq) ?ha ?_ | refine' xAn (by decide) rfl rfl rfl (fun w => ?hq) ?ha ?_ | refine' xBc (by decide) rfl rfl rfl (fun w => ?hq) ?ha ?_); (case hq => go_simp; try rfl)) | (refine' xAg (by decide) rfl rfl rfl ?ha ?_) | (refine' xBk (by decide) rfl rfl rfl rfl ?ha ?_) | (refine' xBm (by decide) rfl ?ha ?_) | fail); try (case ha => simp only [kP, kQ, kA, kB]; try rfl))
  refine xBp (hK _ _ ?_)
  clear hK K
  refine xBw (fun Q hQ => ?_)
  try simp only [List.nil_append, List.cons_append]
  repeat ((first | refine' xBf rfl (.inl rfl) rfl ?hk ?ha ?_ | refine' xBf rfl (.inr rfl) rfl ?hk ?ha ?_ | (refine' xAy rfl rfl rfl inferInstance rfl ?hs rfl rfl ?hn ?hk ?ha ?_; (case hs => repeat (first | exact xAw.head | with_reducible assumption | apply xAw.tail)); (case hn => first | rfl | simp)) | (refine' xAt rfl rfl rfl inferInstance rfl rfl ?hs ?hn ?hl ?hk ?ha ?_; (case hs => repeat (first | exact xAw.head | with_reducible assumption | apply xAw.tail)); (case hn => first | exact oD rfl | (show _ < 4; with_reducible assumption) | (simp; try omega)); (case hl => first | with_reducible assumption | (simp only [nl, kA, kB]; first | done | rfl) | rfl)) | (refine' xAx rfl rfl rfl inferInstance rfl rfl ?hvn ?hs ?hn ?hl ?hk ?ha ?_; (case hvn => first | rfl | simp); (case hs => repeat (first | exact xAw.head | with_reducible assumption | apply xAw.tail)); (case hn => first | exact oD rfl | (show _ < 4; with_reducible assumption) | (simp; try omega)); (case hl => first | with_reducible assumption | (simp only [nl, kA, kB]; first | done | rfl) | rfl)) | (refine' xBq rfl (fun w => ?hq) ?hk ?ha ?_; (case hq => go_simp; try rfl))); (case hk => intro p hp; first | exact absurd hp List.not_mem_nil | (obtain rfl := List.mem_singleton.1 hp; repeat (first | exact List.Mem.head _ | with_reducible assumption | apply mC))); (case ha => simp only [kP, kQ, kA, kB]; try rfl))
  refine xBx (fun w hR => hQ _ _ ?_)
  clear hQ Q
  replace hR := Held.mk (hR.weaken (List.sublist_cons_self _ _))
  go_wp2_with (first | (refine' xAb hR rfl rfl rfl ?_; clear hR; intro blk w hR) | (refine' xAa hR rfl rfl inferInstance ?_; clear hR; intro blk w hR) | (refine' aFq hR rfl rfl rfl inferInstance ?_) | (refine' aGq hR rfl rfl rfl inferInstance ?_) | (refine' aHq hR rfl rfl rfl inferInstance ?_) | (refine' aIq hR rfl rfl rfl inferInstance rfl ?_; clear hR; intro w hR) | (refine' aJq hR rfl rfl rfl inferInstance rfl rfl ?_; clear hR; intro w hR) | fail)
  cases c₀
  simp_all [bodyPostS, results, Try.results82]
  exact hR.out
theorem cells_two (a b : Nat) (x y : Array Value) (t u : TypeId) : ∀ p ∈ [(a, Obj.cells x t), (b, Obj.cells y u)], p.2.isCells = true := fun p hp => by
  rcases List.mem_cons.1 hp with rfl | hp
  · rfl
  · rw [List.mem_singleton.1 hp]; rfl
set_option maxRecDepth 100000 in
theorem stopped_word (caps : List Value) (hq : ∀ (M : List (Nat × Obj)) (w : World), (∀ p ∈ M, p.2.isCells = true) → Rep B0 w0 (M ++ L) w → Calls Try.prog 62 caps.toArray w fun e w' => e = .returned (.tuple #[]) ∧ Rep B0 w0 (M ++ L') w') (hR : Rep B0 w0 L w) :
    Calls Try.prog 61 #[.func (.func 62) #[] caps.toArray] w fun e w' => e = .returned (.tuple #[.int .i64 0, .int .i64 0]) ∧ Rep B0 w0 L' w' := by
  have hmf : ∀ (fn : Fn) (first cap : Array Value) (w : World), (Instr.makeFunc fn first cap).run Try.prog w = .ok (.func fn first cap) w := fun _ _ _ _ => rfl
  go_enter_defers Try.func61, Try.ntmps61
  go_wp2_with (first | (refine' xAb hR rfl rfl rfl ?_; clear hR; intro blk w hR) | (refine' xAa hR rfl rfl inferInstance ?_; clear hR; intro blk w hR) | (refine' aFq hR rfl rfl rfl inferInstance ?_) | (refine' aGq hR rfl rfl rfl inferInstance ?_) | (refine' aHq hR rfl rfl rfl inferInstance ?_) | (refine' aIq hR rfl rfl rfl inferInstance rfl ?_; clear hR; intro w hR) | (refine' aJq hR rfl rfl rfl inferInstance rfl rfl ?_; clear hR; intro w hR) | (go_at_call 62; refine (hq [_, _] _ (cells_two _ _ _ _ _ _) hR).mono ?_; clear hR; rintro e w ⟨rfl, hR⟩))
  (first | (rename_i b2; change Nat at b2) | (rename_i b2 _; change Nat at b2) | (rename_i b2 _ _; change Nat at b2) | (rename_i b2 _ _ _; change Nat at b2) | (rename_i b2 _ _ _ _; change Nat at b2) | (rename_i b2 _ _ _ _ _; change Nat at b2) | (rename_i b2 _ _ _ _ _ _; change Nat at b2) | (rename_i b2 _ _ _ _ _ _ _; change Nat at b2) | (rename_i b2 _ _ _ _ _ _ _ _; change Nat at b2) | (rename_i b2 _ _ _ _ _ _ _ _ _; change Nat at b2) | (rename_i b2 _ _ _ _ _ _ _ _ _ _; change Nat at b2) | (rename_i b2 _ _ _ _ _ _ _ _ _ _ _; change Nat at b2) | (rename_i b2 _ _ _ _ _ _ _ _ _ _ _ _; change Nat at b2) | (rename_i b2 _ _ _ _ _ _ _ _ _ _ _ _ _; change Nat at b2) | (rename_i b2 _ _ _ _ _ _ _ _ _ _ _ _ _ _; change Nat at b2) | (rename_i b2 _ _ _ _ _ _ _ _ _ _ _ _ _ _ _; change Nat at b2) | (rename_i b2 _ _ _ _ _ _ _ _ _ _ _ _ _ _ _ _; change Nat at b2) | (rename_i b2 _ _ _ _ _ _ _ _ _ _ _ _ _ _ _ _ _; change Nat at b2) | (rename_i b2 _ _ _ _ _ _ _ _ _ _ _ _ _ _ _ _ _ _; change Nat at b2) | (rename_i b2 _ _ _ _ _ _ _ _ _ _ _ _ _ _ _ _ _ _ _; change Nat at b2) | (rename_i b2 _ _ _ _ _ _ _ _ _ _ _ _ _ _ _ _ _ _ _ _; change Nat at b2) | (rename_i b2 _ _ _ _ _ _ _ _ _ _ _ _ _ _ _ _ _ _ _ _ _; change Nat at b2) | (rename_i b2 _ _ _ _ _ _ _ _ _ _ _ _ _ _ _ _ _ _ _ _ _ _; change Nat at b2) | (rename_i b2 _ _ _ _ _ _ _ _ _ _ _ _ _ _ _ _ _ _ _ _ _ _ _; change Nat at b2) | (rename_i b2 _ _ _ _ _ _ _ _ _ _ _ _ _ _ _ _ _ _ _ _ _ _ _ _; change Nat at b2) | (rename_i b2 _ _ _ _ _ _ _ _ _ _ _ _ _ _ _ _ _ _ _ _ _ _ _ _ _; change Nat at b2) | (rename_i b2 _ _ _ _ _ _ _ _ _ _ _ _ _ _ _ _ _ _ _ _ _ _ _ _ _ _; change Nat at b2) | (rename_i b2 _ _ _ _ _ _ _ _ _ _ _ _ _ _ _ _ _ _ _ _ _ _ _ _ _ _ _; change Nat at b2) | (rename_i b2 _ _ _ _ _ _ _ _ _ _ _ _ _ _ _ _ _ _ _ _ _ _ _ _ _ _ _ _; change Nat at b2) | (rename_i b2 _ _ _ _ _ _ _ _ _ _ _ _ _ _ _ _ _ _ _ _ _ _ _ _ _ _ _ _ _; change Nat at b2))
  try simp only [Act.put, kA, kB, List.setIfInBounds_toArray]
  refine leaves_cons (f := 82) (args := #[.pointer (some ⟨b2, 0, none⟩), .pointer (some ⟨blk, 0, none⟩)]) (by simp) (by simp [go_sem]) ?_
  refine (caught_idle _ _ hR).mono ?_
  rintro e u' w ⟨rfl, rfl, hR⟩
  refine ⟨_, results_cc Try.results61 rfl (hR.loadCell (P := Try.prog) (ty := 3) (.tail _ (.head _)) rfl) rfl (hR.loadCell (P := Try.prog) (ty := 29) (.head _) rfl), rfl, ?_⟩
  exact hR.weaken (.cons _ (.cons _ (List.Sublist.refl _)))
set_option maxRecDepth 100000 in
theorem stopped_chk (caps : List Value) (hq : ∀ (M : List (Nat × Obj)) (w : World), (∀ p ∈ M, p.2.isCells = true) → Rep B0 w0 (M ++ L) w → Calls Try.prog 68 caps.toArray w fun e w' => e = .returned (.tuple #[]) ∧ Rep B0 w0 (M ++ L') w') (hR : Rep B0 w0 L w) :
    Calls Try.prog 61 #[.func (.func 68) #[] caps.toArray] w fun e w' => e = .returned (.tuple #[.int .i64 0, .int .i64 0]) ∧ Rep B0 w0 L' w' := by
  have hmf : ∀ (fn : Fn) (first cap : Array Value) (w : World), (Instr.makeFunc fn first cap).run Try.prog w = .ok (.func fn first cap) w := fun _ _ _ _ => rfl
  go_enter_defers Try.func61, Try.ntmps61
  go_wp2_with (first | (refine' xAb hR rfl rfl rfl ?_; clear hR; intro blk w hR) | (refine' xAa hR rfl rfl inferInstance ?_; clear hR; intro blk w hR) | (refine' aFq hR rfl rfl rfl inferInstance ?_) | (refine' aGq hR rfl rfl rfl inferInstance ?_) | (refine' aHq hR rfl rfl rfl inferInstance ?_) | (refine' aIq hR rfl rfl rfl inferInstance rfl ?_; clear hR; intro w hR) | (refine' aJq hR rfl rfl rfl inferInstance rfl rfl ?_; clear hR; intro w hR) | (go_at_call 68; refine (hq [_, _] _ (cells_two _ _ _ _ _ _) hR).mono ?_; clear hR; rintro e w ⟨rfl, hR⟩))
  (first | (rename_i b2; change Nat at b2) | (rename_i b2 _; change Nat at b2) | (rename_i b2 _ _; change Nat at b2) | (rename_i b2 _ _ _; change Nat at b2) | (rename_i b2 _ _ _ _; change Nat at b2) | (rename_i b2 _ _ _ _ _; change Nat at b2) | (rename_i b2 _ _ _ _ _ _; change Nat at b2) | (rename_i b2 _ _ _ _ _ _ _; change Nat at b2) | (rename_i b2 _ _ _ _ _ _ _ _; change Nat at b2) | (rename_i b2 _ _ _ _ _ _ _ _ _; change Nat at b2) | (rename_i b2 _ _ _ _ _ _ _ _ _ _; change Nat at b2) | (rename_i b2 _ _ _ _ _ _ _ _ _ _ _; change Nat at b2) | (rename_i b2 _ _ _ _ _ _ _ _ _ _ _ _; change Nat at b2) | (rename_i b2 _ _ _ _ _ _ _ _ _ _ _ _ _; change Nat at b2) | (rename_i b2 _ _ _ _ _ _ _ _ _ _ _ _ _ _; change Nat at b2) | (rename_i b2 _ _ _ _ _ _ _ _ _ _ _ _ _ _ _; change Nat at b2) | (rename_i b2 _ _ _ _ _ _ _ _ _ _ _ _ _ _ _ _; change Nat at b2) | (rename_i b2 _ _ _ _ _ _ _ _ _ _ _ _ _ _ _ _ _; change Nat at b2) | (rename_i b2 _ _ _ _ _ _ _ _ _ _ _ _ _ _ _ _ _ _; change Nat at b2) | (rename_i b2 _ _ _ _ _ _ _ _ _ _ _ _ _ _ _ _ _ _ _; change Nat at b2) | (rename_i b2 _ _ _ _ _ _ _ _ _ _ _ _ _ _ _ _ _ _ _ _; change Nat at b2) | (rename_i b2 _ _ _ _ _ _ _ _ _ _ _ _ _ _ _ _ _ _ _ _ _; change Nat at b2) | (rename_i b2 _ _ _ _ _ _ _ _ _ _ _ _ _ _ _ _ _ _ _ _ _ _; change Nat at b2) | (rename_i b2 _ _ _ _ _ _ _ _ _ _ _ _ _ _ _ _ _ _ _ _ _ _ _; change Nat at b2) | (rename_i b2 _ _ _ _ _ _ _ _ _ _ _ _ _ _ _ _ _ _ _ _ _ _ _ _; change Nat at b2) | (rename_i b2 _ _ _ _ _ _ _ _ _ _ _ _ _ _ _ _ _ _ _ _ _ _ _ _ _; change Nat at b2) | (rename_i b2 _ _ _ _ _ _ _ _ _ _ _ _ _ _ _ _ _ _ _ _ _ _ _ _ _ _; change Nat at b2) | (rename_i b2 _ _ _ _ _ _ _ _ _ _ _ _ _ _ _ _ _ _ _ _ _ _ _ _ _ _ _; change Nat at b2) | (rename_i b2 _ _ _ _ _ _ _ _ _ _ _ _ _ _ _ _ _ _ _ _ _ _ _ _ _ _ _ _; change Nat at b2) | (rename_i b2 _ _ _ _ _ _ _ _ _ _ _ _ _ _ _ _ _ _ _ _ _ _ _ _ _ _ _ _ _; change Nat at b2))
  try simp only [Act.put, kA, kB, List.setIfInBounds_toArray]
  refine leaves_cons (f := 82) (args := #[.pointer (some ⟨b2, 0, none⟩), .pointer (some ⟨blk, 0, none⟩)]) (by simp) (by simp [go_sem]) ?_
  refine (caught_idle _ _ hR).mono ?_
  rintro e u' w ⟨rfl, rfl, hR⟩
  refine ⟨_, results_cc Try.results61 rfl (hR.loadCell (P := Try.prog) (ty := 3) (.tail _ (.head _)) rfl) rfl (hR.loadCell (P := Try.prog) (ty := 29) (.head _) rfl), rfl, ?_⟩
  exact hR.weaken (.cons _ (.cons _ (List.Sublist.refl _)))
set_option maxRecDepth 100000 in
theorem stopped_chkN (caps : List Value) (k : Int) (hq : ∀ (M : List (Nat × Obj)) (w : World), (∀ p ∈ M, p.2.isCells = true) → Rep B0 w0 (M ++ L) w → Calls Try.prog 68 caps.toArray w fun e w' => e = .panicked [{ v := .iface 99 (.agg #[.int .i64 k]), recovered := false }] ∧ Rep B0 w0 (M ++ L') w') (hR : Rep B0 w0 L w) :
    Calls Try.prog 61 #[.func (.func 68) #[] caps.toArray] w fun e w' => e = .returned (.tuple #[.int .i64 1, .int .i64 k]) ∧ Rep B0 w0 L' w' := by
  have hmf : ∀ (fn : Fn) (first cap : Array Value) (w : World), (Instr.makeFunc fn first cap).run Try.prog w = .ok (.func fn first cap) w := fun _ _ _ _ => rfl
  go_enter_defers Try.func61, Try.ntmps61
  go_wp2_with (first | (refine' xAb hR rfl rfl rfl ?_; clear hR; intro blk w hR) | (refine' xAa hR rfl rfl inferInstance ?_; clear hR; intro blk w hR) | (refine' aFq hR rfl rfl rfl inferInstance ?_) | (refine' aGq hR rfl rfl rfl inferInstance ?_) | (refine' aHq hR rfl rfl rfl inferInstance ?_) | (refine' aIq hR rfl rfl rfl inferInstance rfl ?_; clear hR; intro w hR) | (refine' aJq hR rfl rfl rfl inferInstance rfl rfl ?_; clear hR; intro w hR) | (go_at_call 68; refine (hq [_, _] _ (cells_two _ _ _ _ _ _) hR).mono ?_; clear hR; rintro e w ⟨rfl, hR⟩))
  (first | (rename_i b2; change Nat at b2) | (rename_i b2 _; change Nat at b2) | (rename_i b2 _ _; change Nat at b2) | (rename_i b2 _ _ _; change Nat at b2) | (rename_i b2 _ _ _ _; change Nat at b2) | (rename_i b2 _ _ _ _ _; change Nat at b2) | (rename_i b2 _ _ _ _ _ _; change Nat at b2) | (rename_i b2 _ _ _ _ _ _ _; change Nat at b2) | (rename_i b2 _ _ _ _ _ _ _ _; change Nat at b2) | (rename_i b2 _ _ _ _ _ _ _ _ _; change Nat at b2) | (rename_i b2 _ _ _ _ _ _ _ _ _ _; change Nat at b2) | (rename_i b2 _ _ _ _ _ _ _ _ _ _ _; change Nat at b2) | (rename_i b2 _ _ _ _ _ _ _ _ _ _ _ _; change Nat at b2) | (rename_i b2 _ _ _ _ _ _ _ _ _ _ _ _ _; change Nat at b2) | (rename_i b2 _ _ _ _ _ _ _ _ _ _ _ _ _ _; change Nat at b2) | (rename_i b2 _ _ _ _ _ _ _ _ _ _ _ _ _ _ _; change Nat at b2) | (rename_i b2 _ _ _ _ _ _ _ _ _ _ _ _ _ _ _ _; change Nat at b2) | (rename_i b2 _ _ _ _ _ _ _ _ _ _ _ _ _ _ _ _ _; change Nat at b2) | (rename_i b2 _ _ _ _ _ _ _ _ _ _ _ _ _ _ _ _ _ _; change Nat at b2) | (rename_i b2 _ _ _ _ _ _ _ _ _ _ _ _ _ _ _ _ _ _ _; change Nat at b2) | (rename_i b2 _ _ _ _ _ _ _ _ _ _ _ _ _ _ _ _ _ _ _ _; change Nat at b2) | (rename_i b2 _ _ _ _ _ _ _ _ _ _ _ _ _ _ _ _ _ _ _ _ _; change Nat at b2) | (rename_i b2 _ _ _ _ _ _ _ _ _ _ _ _ _ _ _ _ _ _ _ _ _ _; change Nat at b2) | (rename_i b2 _ _ _ _ _ _ _ _ _ _ _ _ _ _ _ _ _ _ _ _ _ _ _; change Nat at b2) | (rename_i b2 _ _ _ _ _ _ _ _ _ _ _ _ _ _ _ _ _ _ _ _ _ _ _ _; change Nat at b2) | (rename_i b2 _ _ _ _ _ _ _ _ _ _ _ _ _ _ _ _ _ _ _ _ _ _ _ _ _; change Nat at b2) | (rename_i b2 _ _ _ _ _ _ _ _ _ _ _ _ _ _ _ _ _ _ _ _ _ _ _ _ _ _; change Nat at b2) | (rename_i b2 _ _ _ _ _ _ _ _ _ _ _ _ _ _ _ _ _ _ _ _ _ _ _ _ _ _ _; change Nat at b2) | (rename_i b2 _ _ _ _ _ _ _ _ _ _ _ _ _ _ _ _ _ _ _ _ _ _ _ _ _ _ _ _; change Nat at b2) | (rename_i b2 _ _ _ _ _ _ _ _ _ _ _ _ _ _ _ _ _ _ _ _ _ _ _ _ _ _ _ _ _; change Nat at b2))
  try simp only [Act.put, kA, kB, List.setIfInBounds_toArray]
  refine leaves_cons (f := 82) (args := #[.pointer (some ⟨b2, 0, none⟩), .pointer (some ⟨blk, 0, none⟩)]) (by simp) (by simp [go_sem]) ?_
  refine (caught_panic _ _ k hR).mono ?_
  rintro e u' w ⟨rfl, rfl, hR⟩
  refine ⟨_, results_cc Try.results61 rfl (hR.loadCell (P := Try.prog) (ty := 3) (.tail _ (.head _)) rfl) rfl (hR.loadCell (P := Try.prog) (ty := 29) (.head _) rfl), rfl, ?_⟩
  exact hR.weaken (.cons _ (.cons _ (List.Sublist.refl _)))
end
end Go.Proofs.Ytgfoeongjhkdmaa
namespace Go.Proofs.Ytgfoeongjhkdmaa
open Go.RowKit
section
variable {q n : Nat} [NeZero q]
theorem SR_congr {G G' : Nat → Fin q} : ∀ k, (∀ t, t < k → G t = G' t) → SR G k = SR G' k
  | 0, _ => rfl
  | k + 1, h => by rw [SR, SR, SR_congr k (fun t ht => h t (by omega)), h k (by omega)]
theorem SR_add {G G' : Nat → Fin q} : ∀ k, SR (fun t => G t + G' t) k = SR G k + SR G' k
  | 0 => by simp only [SR]; grind
  | k + 1 => by rw [SR, SR, SR, SR_add k]; grind
def shR (s : Nat) (D : Nat → Fin q) (j : Nat) : Fin q := if j < s then 0 else D (j - s)
theorem H_shift (D : Nat → Fin q) (m : Nat) (x : Fin q) : ∀ s, H (shR s D) (s + m) x = x ^ s * H D m x
  | 0 => by
    rw [Nat.zero_add, H_congr (Q := D) (fun j _ => by unfold shR; rw [if_neg (Nat.not_lt_zero j), Nat.sub_zero])]
    grind
  | s + 1 => by
    have ih := H_shift D m x s
    have e : H (fun j => shR (s + 1) D (j + 1)) (s + m) x = H (shR s D) (s + m) x := H_congr (fun j _ => by
      show shR (s + 1) D (j + 1) = shR s D j
      unfold shR
      by_cases h : j < s
      · rw [if_pos h, if_pos (by omega)]
      · rw [if_neg h, if_neg (by omega), show j + 1 - (s + 1) = j - s by omega]) x
    have e0 : shR (s + 1) D 0 = 0 := by unfold shR; rw [if_pos (by omega)]
    rw [show s + 1 + m = (s + m) + 1 by omega, H, e, ih, e0]
    grind
theorem pa_top {f V : Nat → Nat} (i : Nat) : ∀ k, fi q (paF q n f V i k (lenN i k - 1)) = fi q (vF q n f i) * fi q (V i)
  | 0 => by
    have e : lenN i 0 = 1 := by unfold lenN cntN; simp
    rw [e, paF, fi_mulN]
  | k + 1 => by
    have ih := pa_top (f := f) (V := V) i k
    by_cases hk : k = i
    · have e : lenN i (k + 1) = lenN i k := by unfold lenN; rw [hk, cnt_same]
      rw [e, paF, if_pos hk]
      exact ih
    · have e : lenN i (k + 1) = lenN i k + 1 := by unfold lenN; rw [cnt_next hk]; omega
      rw [e, paF, if_neg hk, Nat.add_sub_cancel]
      unfold lonF
      rw [if_neg (Nat.lt_irrefl _)]
      exact ih
theorem out_top {f V : Nat → Nat} : ∀ i, i ≤ n → fi q (outF q n f V i (n - 1)) = SR (fun t => fi q (vF q n f t) * fi q (V t)) i
  | 0, _ => by rw [SR, outF, fi_zero]
  | i + 1, h => by
    have hp := pa_top (n := n) (f := f) (V := V) (q := q) i n
    rw [len_end h] at hp
    rw [SR, outF, fi_addN, out_top i (by omega), hp]
theorem top_is {f : Nat → Nat} (h1 : 1 < q) (hf : ∀ j, j < n → f j < q) (hE : wtE q n f n = 0) (hn : 0 < n) (V : Nat → Fin q) (E : Nat → Fin q) (hP : ∀ j, j < n → H E n (fi q (f j)) = V j) : E (n - 1) = SR (fun t => fi q (vF q n f t) * V t) n := by
  have h := out_only (V := fun j => (V j).val) h1 hf hE E (fun j hj => by rw [hP j hj]; exact (fi_of _).symm) (n - 1) (by omega)
  rw [← h, out_top n (Nat.le_refl n)]
  exact SR_congr n fun t _ => by rw [fi_of]
noncomputable def tkk (q n : Nat) [NeZero q] (f : Nat → Nat) (L : Nat → Fin q) (kk : Nat) : Fin q := SR (fun t => fi q (vF q n f t) * (L t * fi q (f t) ^ kk)) n
theorem tkk_top {f : Nat → Nat} (h1 : 1 < q) (hf : ∀ j, j < n → f j < q) (hE : wtE q n f n = 0) {L D : Nat → Fin q} (hD : ∀ j, j < n → H D n (fi q (f j)) = L j) {kk : Nat} (hk : kk < n) (hz : ∀ j, n - kk ≤ j → j < n → D j = 0) : tkk q n f L kk = D (n - 1 - kk) := by
  have h := top_is h1 hf hE (by omega) (fun t => L t * fi q (f t) ^ kk) (shR kk D) (fun j hj => by
    have e := H_shift D (n - kk) (fi q (f j)) kk
    rw [show kk + (n - kk) = n by omega] at e
    rw [e, ← H_pad (P := D) (m := n - kk) n (fi q (f j)) (by omega) hz, hD j hj]
    grind)
  unfold tkk
  rw [← h]
  unfold shR
  rw [if_neg (by omega)]
theorem pass_iff {f : Nat → Nat} (h1 : 1 < q) (hf : ∀ j, j < n → f j < q) (hE : wtE q n f n = 0) {L D : Nat → Fin q} (hD : ∀ j, j < n → H D n (fi q (f j)) = L j) {k : Nat} (hk : 1 ≤ k) (hkn : k ≤ n) :
    (∀ kk, kk < n - k → tkk q n f L kk = 0) ↔ ∀ j, k ≤ j → j < n → D j = 0 := by
  constructor
  · intro h
    have key : ∀ s, s ≤ n - k → ∀ j, n - s ≤ j → j < n → D j = 0 := by
      intro s
      induction s with
      | zero => intro _ j h1 h2; omega
      | succ s ih =>
        intro hs j h2 h3
        by_cases e : j = n - 1 - s
        · rw [e, ← tkk_top h1 hf hE hD (kk := s) (by omega) (ih (by omega))]
          exact h s (by omega)
        · exact ih (by omega) j (by omega) h3
    intro j h2 h3
    exact key (n - k) (Nat.le_refl _) j (by omega) h3
  · intro h kk hkk
    rw [tkk_top h1 hf hE hD (by omega) (fun j h2 h3 => h j (by omega) h3)]
    exact h _ (by omega) (by omega)
theorem tkk_zero {f : Nat → Nat} {L : Nat → Fin q} : tkk q n f L 0 = SR (fun t => fi q (vF q n f t) * L t) n := by
  unfold tkk
  exact SR_congr n fun t _ => by grind
noncomputable def wdS (q c i : Nat) : Nat → Nat
  | 0 => c
  | k + 1 => if k = i then wdS q c i k else mulN (wdS q c i k) (invM (sOf q ((i : Int) - (k : Int))) q) q
omit [NeZero q] in
theorem wdS_lt (h1 : 1 < q) {c i : Nat} (hc : c < q) : ∀ k, wdS q c i k < q
  | 0 => hc
  | k + 1 => by
    unfold wdS
    split
    · exact wdS_lt h1 hc k
    · exact mul_lt' h1 _ _
noncomputable def ptF (q j : Nat) : Nat := sOf q ((j : Int) + 1)
omit [NeZero q] in
theorem ptF_lt (h1 : 1 < q) (j : Nat) : ptF q j < q := sOf_lt h1 _
theorem fi_dif (h1 : 1 < q) (i k : Nat) : fi q (sOf q ((i : Int) - (k : Int))) = fi q (ptF q i) - fi q (ptF q k) := by
  rw [← fi_subN (ptF_lt h1 k)]
  unfold ptF
  rw [sOf_sub h1]
  congr 2
  omega
def difOK (q n : Nat) : Prop := ∀ i k, i < n → k < n → i ≠ k → Nat.gcd (sOf q ((i : Int) - (k : Int))) q = 1
theorem fi_wd (h1 : 1 < q) (hd : difOK q n) {c i : Nat} (hi : i < n) : ∀ k, k ≤ n → fi q (wdS q c i k) * PS (fun t => fi q (ptF q i) - fi q (ptF q t)) i k = fi q c
  | 0, _ => by rw [wdS, PS]; grind
  | k + 1, hk => by
    have ih := fi_wd (c := c) h1 hd hi k (by omega)
    rw [wdS, PS]
    by_cases e : k = i
    · rw [if_pos e, if_pos e]
      exact ih
    · rw [if_neg e, if_neg e, fi_mulN]
      have hv := fi_inv (q := q) h1 (sOf_lt h1 _) (hd i k hi (by omega) (Ne.symm e))
      rw [fi_dif h1] at hv
      generalize fi q (wdS q c i k) = A at *
      generalize fi q (invM (sOf q ((i : Int) - (k : Int))) q) = A2 at *
      generalize PS (fun t => fi q (ptF q i) - fi q (ptF q t)) i k = A3 at *
      generalize fi q (ptF q i) - fi q (ptF q k) = A4 at *
      grind
theorem xDa (h1 : 1 < q) (hd : difOK q n) : wtE q n (ptF q) n = 0 := (wtE_all h1 n).2 fun t ht =>
  u_unit (q := q) (v := fi q (wdS q (sOf q 1) t n)) h1 (fun j _ => ptF_lt h1 j) ht (by
    have := fi_wd (c := sOf q 1) h1 hd ht n (Nat.le_refl n)
    rw [fi_one h1] at this
    generalize fi q (wdS q (sOf q 1) t n) = A at *
    generalize PS (fun s => fi q (ptF q t) - fi q (ptF q s)) t n = A2 at *
    grind)
theorem fi_word (h1 : 1 < q) (hd : difOK q n) {c i : Nat} (hi : i < n) : fi q (wdS q c i n) = fi q (vF q n (ptF q) i) * fi q c := by
  have e := fi_wd (c := c) h1 hd hi n (Nat.le_refl n)
  have v := fi_vu h1 (f := ptF q) (fun j _ => ptF_lt h1 j) hi ((wtE_all h1 n).1 (xDa h1 hd) i hi)
  generalize fi q (wdS q c i n) = A at *
  generalize PS (fun t => fi q (ptF q i) - fi q (ptF q t)) i n = A2 at *
  generalize fi q (vF q n (ptF q) i) = A3 at *
  grind
theorem vF_unit (h1 : 1 < q) (hd : difOK q n) {i : Nat} (hi : i < n) : ∃ u, fi q (vF q n (ptF q) i) * u = 1 :=
  ⟨_, fi_vu h1 (f := ptF q) (fun j _ => ptF_lt h1 j) hi ((wtE_all h1 n).1 (xDa h1 hd) i hi)⟩
omit [NeZero q] in
theorem dif_pts (h1 : 1 < q) (hd : difOK q n) (hn : 0 < n) : ptsOK q n (ptF q) := by
  haveI : NeZero q := ⟨by omega⟩
  refine ⟨hn, fun i hi j hj e => ?_, h1, fun j _ => ptF_lt h1 j⟩
  obtain ⟨v, hv⟩ := dif_unit (q := q) h1 (f := ptF q) (fun j _ => ptF_lt h1 j) (xDa h1 hd) j i (by omega) hi (by omega)
  rw [e] at hv
  have h0 : (1 : Fin q) = 0 := by grind
  have := congrArg Fin.val h0
  rw [← fi_one' h1, ← fi_zero, fi_val, fi_val, Nat.mod_eq_of_lt h1] at this
  simp at this
noncomputable def mono (q kk j : Nat) : Nat := if j < kk then 0 else sOf q 1
omit [NeZero q] in
theorem mono_lt (h1 : 1 < q) (kk j : Nat) : mono q kk j < q := by
  unfold mono
  split
  · omega
  · exact sOf_lt h1 1
theorem fi_mono (h1 : 1 < q) (kk x : Nat) : fi q (atN q (mono q kk) (kk + 1) x) = fi q x ^ kk := by
  rw [fi_atN h1 (fun j _ => mono_lt h1 kk j), H_last, H_congr (Q := fun _ => 0) (fun j hj => by unfold mono; rw [if_pos hj, fi_zero]), H_zero]
  unfold mono
  rw [if_neg (Nat.lt_irrefl kk), fi_one h1]
  grind
end
end Go.Proofs.Ytgfoeongjhkdmaa
namespace Go.Proofs.Ytgfoeongjhkdmaa
open Go.RowKit
attribute [local irreducible] Calls Instr.build Instr.buildSlice
noncomputable def wL (p q g h n len cp : Nat) (a : Option Addr) (gb b8 b5 b4 b3 : Nat) (F : Nat → Nat) : List (Nat × Obj) := [(b8, .cells [.slice (some ⟨gb, 0, none⟩) n n].toArray 27), (gb, .cells (xCg F n).toArray 24), (b5, .cells [.slice a len cp].toArray 27), (b4, .cells [.int .i64 (n : Int)].toArray 3), (b3, .cells (gl p q g h).toArray 26)]
noncomputable def wdL (q c i : Nat) {n : Nat} (l : List (Oth n i)) : Nat := l.foldl (fun r k => mulN r (invM (sOf q ((i : Int) - (k.1 : Int))) q) q) c
theorem wdL_nil (q c i : Nat) {n : Nat} : wdL q c i ([] : List (Oth n i)) = c := rfl
theorem wdL_snoc (q c i : Nat) {n : Nat} (l : List (Oth n i)) (x : Oth n i) : wdL q c i (l ++ [x]) = mulN (wdL q c i l) (invM (sOf q ((i : Int) - (x.1 : Int))) q) q := by unfold wdL; rw [List.foldl_append]; rfl
theorem wdL_lt {q c i : Nat} (h1 : 1 < q) (hc : c < q) {n : Nat} (l : List (Oth n i)) : wdL q c i l < q := by
  rcases List.eq_nil_or_concat l with rfl | ⟨l, x, rfl⟩
  · exact hc
  · rw [List.concat_eq_append, wdL_snoc]; exact mul_lt' h1 _ _
theorem wdL_all {q c i n : Nat} : ∀ m, m ≤ n → wdL q c i (othL n i m) = wdS q c i m
  | 0, _ => rfl
  | m + 1, h => by
    have ih := wdL_all (q := q) (c := c) (i := i) (n := n) m (by omega)
    rw [wdS]
    by_cases e : m = i
    · subst e
      rw [if_pos rfl, othL_same, ih]
    · rw [if_neg e, othL_next ⟨by omega, e⟩, wdL_snoc, ih]
noncomputable def c0F (q len : Nat) (P : Nat → Nat) (i : Nat) : Nat := atN q P len (ptF q i)
noncomputable def wordF (q n len : Nat) (P : Nat → Nat) (i : Nat) : Nat := wdS q (c0F q len P i) i n
noncomputable def wordG (q n len : Nat) (P : Nat → Nat) (i v j : Nat) : Nat := if j < i then wordF q n len P j else if j = i then v else 0
theorem wordF_lt {q n len : Nat} {P : Nat → Nat} (h1 : 1 < q) (i : Nat) : wordF q n len P i < q := wdS_lt h1 (atN_lt h1 _ _ _) _
section
variable {B0 : Nat} {w0 w : World} {p q g h n len cp : Nat} {a : Option Addr} {P : Nat → Nat}
theorem dothers_rep {L : List (Nat × Obj)} (i0 : Int) (k : Int) (hR : Rep B0 w0 L w) : Calls Try.prog 64 #[.int .i64 i0, .int .i64 k] w fun e w' => ∃ Bn Bi, e = .returned (.func (.func 83) #[] #[.pointer (some ⟨Bn, 0, none⟩), .pointer (some ⟨Bi, 0, none⟩)]) ∧ Rep B0 w0 ((Bn, .cells [.int .i64 k].toArray 3) :: (Bi, .cells [.int .i64 i0].toArray 3) :: L) w' := by
  refine (dothers_any i0 k w).mono ?_
  rintro e w' ⟨rfl, rfl⟩
  refine ⟨_, _, rfl, ?_⟩
  have := (hR.alloc (.cells #[.int .i64 i0] 3)).alloc (.cells #[.int .i64 k] 3)
  simpa using this
set_option maxRecDepth 100000 in
set_option maxHeartbeats 8000000 in
theorem word1_any (hp : p < B) (hq : q < B) (h1 : 1 < q) (hA : NAt B0 w0 [] a len cp P) (hl : len ≤ 1000) (hP : ∀ j, j < len → P j < q) (hd : difOK q n) (hn : n ≤ 1000) {gb b8 b5 b4 b3 : Nat} (M : List (Nat × Obj)) (hM : ∀ x ∈ M, x.2.isCells = true) (hR : Rep B0 w0 (M ++ wL p q g h n len cp a gb b8 b5 b4 b3 (fun _ => 0)) w) :
    Calls Try.prog 62 #[.pointer (some ⟨b8, 0, none⟩), .pointer (some ⟨b3, 0, none⟩), .pointer (some ⟨b5, 0, none⟩), .pointer (some ⟨b4, 0, none⟩)] w fun e w' => e = .returned (.tuple #[]) ∧ Rep B0 w0 (M ++ wL p q g h n len cp a gb b8 b5 b4 b3 (wordF q n len P)) w' := by
  have e0 : xCg (fun _ => 0) n = xCg (wordG q n len P 0 0) n := xCd fun j _ => by unfold wordG; simp
  replace hR := (show Rep B0 w0 (marks [] ++ (M ++ wL p q g h n len cp a gb b8 b5 b4 b3 (fun _ => 0))) w from hR)
  unfold wL at hR
  rw [e0] at hR
  clear e0
  have mem8 : ∀ (X : List (Nat × Obj)) (F : Nat → Nat), (b8, Obj.cells [Value.slice (some ⟨gb, 0, none⟩) n n].toArray 27) ∈ X ++ (M ++ wL p q g h n len cp a gb b8 b5 b4 b3 F) := fun X F => List.mem_append_right _ (List.mem_append_right _ (.head _))
  have mem5 : ∀ (X : List (Nat × Obj)) (F : Nat → Nat), (b5, Obj.cells [Value.slice a len cp].toArray 27) ∈ X ++ (M ++ wL p q g h n len cp a gb b8 b5 b4 b3 F) := fun X F => List.mem_append_right _ (List.mem_append_right _ (.tail _ (.tail _ (.head _))))
  have mem4 : ∀ (X : List (Nat × Obj)) (F : Nat → Nat), (b4, Obj.cells [Value.int .i64 (n : Int)].toArray 3) ∈ X ++ (M ++ wL p q g h n len cp a gb b8 b5 b4 b3 F) := fun X F => List.mem_append_right _ (List.mem_append_right _ (.tail _ (.tail _ (.tail _ (.head _)))))
  have mem3 : ∀ (X : List (Nat × Obj)) (F : Nat → Nat), (b3, Obj.cells (gl p q g h).toArray 26) ∈ X ++ (M ++ wL p q g h n len cp a gb b8 b5 b4 b3 F) := fun X F => List.mem_append_right _ (List.mem_append_right _ (.tail _ (.tail _ (.tail _ (.tail _ (.head _))))))
  replace hR := (show Rep B0 w0 (marks [] ++ (M ++ wL p q g h n len cp a gb b8 b5 b4 b3 (wordG q n len P 0 0))) w from hR)
  replace hA := Held.mk hA
  replace hP := Held.mk hP
  replace hd := Held.mk hd
  replace hM := Held.mk hM
  refine (callsIn_wide (n := 5)).1 ?_
  refine callsIn_of_wp_marks Try.func62 rfl trivial ?_ rfl
  simp only [Try.ntmps62, List.size_toArray, List.length_cons, List.length_nil, Nat.reduceAdd, Nat.reduceSub, Array.replicate_succ, Array.replicate_zero, List.push_toArray, List.append_toArray, List.nil_append, List.cons_append]
  refine wpIn_wide.2 ?_
  have m8 := mem8 (marks []) (wordG q n len P 0 0)
  go_wp2_with (first | (refine' xAb hR rfl rfl rfl ?_; clear hR; intro blk w hR) | (refine' xAa hR rfl rfl inferInstance ?_; clear hR; intro blk w hR) | (refine' aFq hR rfl rfl rfl inferInstance ?_) | (refine' aGq hR rfl rfl rfl inferInstance ?_) | (refine' aHq hR rfl rfl rfl inferInstance ?_) | (refine' aIq hR rfl rfl rfl inferInstance rfl ?_; clear hR; intro w hR) | (refine' aJq hR rfl rfl rfl inferInstance rfl rfl ?_; clear hR; intro w hR) | fail)
  clear m8
  try simp only [Act.put, kA, kB, List.setIfInBounds_toArray]
  refine' loop_whileD (false :: false :: false :: false :: true :: true :: false :: false :: false :: true :: true :: true :: true :: true :: true :: true :: true :: true :: true :: true :: true :: true :: true :: true :: true :: true :: true :: true :: true :: true :: true :: true :: true :: true :: true :: true :: true :: true :: true :: true :: true :: true :: true :: true :: true :: true :: true :: true :: true :: true :: true :: true :: true :: []) (fun (v : Nat × List Nat) l => l.set 8 (.int .i64 (v.1 : Int))) (fun v => v.2.map coll) (fun v => marks v.2 ++ (M ++ wL p q g h n len cp a gb b8 b5 b4 b3 (wordG q n len P v.1 0))) (fun v => n - v.1) (fun v => v.1 ≤ n) (0, []) ?h0 ?hO ?hR ?hs
  case h0 => exact xBh rfl rfl rfl
  case hO => exact Nat.zero_le _
  case hR => exact hR
  case hs =>
    clear hR
    intro v tm w hi ht hR K hK
    obtain ⟨i, Ds⟩ := v
    simp only at hi ht hR
    have g0 : 0 ≤ (i : Int) := by omega
    by_cases hik : i = n
    · subst hik
      have t1 : ¬ (i : Int) < (i : Int) := by omega
      clear hK
      repeat (first | (obtain ⟨x, tm', e, ht'⟩ := xAu ht; clear ht; subst e; have ht := ht'; clear ht') | (obtain ⟨tm', e, ht'⟩ := xAj ht; clear ht; subst e; have ht := ht'; clear ht'))
      obtain rfl := xAz ht
      clear ht
      go_wp2_with (first | (refine' xAb hR rfl rfl rfl ?_; clear hR; intro blk w hR) | (refine' xAa hR rfl rfl inferInstance ?_; clear hR; intro blk w hR) | (refine' aFq hR rfl rfl rfl inferInstance ?_) | (refine' aGq hR rfl rfl rfl inferInstance ?_) | (refine' aHq hR rfl rfl rfl inferInstance ?_) | (refine' aIq hR rfl rfl rfl inferInstance rfl ?_; clear hR; intro w hR) | (refine' aJq hR rfl rfl rfl inferInstance rfl rfl ?_; clear hR; intro w hR) | fail)
      have er : xCg (wordG q i len P i 0) i = xCg (wordF q i len P) i := xCd fun j hj => by unfold wordG; rw [if_pos hj]
      unfold wL at hR ⊢
      rw [er] at hR
      exact leaves_marks Ds _ hR fun W' h => ⟨_, results_none rfl _ _ _, rfl, h⟩
    · have t1 : (i : Int) < (n : Int) := by omega
      have hin : i < n := by omega
      have hi1 : i + 1 ≤ n := by omega
      have hmu : n - (i + 1) < n - i := by omega
      have ei : IntKind.i64.wrap ((i : Int) + 1) = (i : Int) + 1 := by rw [IntKind.wrap_i64]; omega
      obtain ⟨x0, hx0⟩ : ∃ x, ptF q i = x := ⟨_, rfl⟩
      have lx0 : x0 < q := by rw [← hx0]; exact ptF_lt h1 i
      obtain ⟨c0, hc0⟩ : ∃ x, atN q P len x0 = x := ⟨_, rfl⟩
      have lc0 : c0 < q := by rw [← hc0]; exact atN_lt h1 _ _ _
      have ec0 : c0F q len P i = c0 := by rw [c0F, hx0, hc0]
      have cO := SO (p := p) (g := g) (h := h) (n := (i : Int) + 1) hq (by omega) (by omega) hx0
      have cA := fun (L : List (Nat × Obj)) (w : World) (hw : Rep B0 w0 L w) => at_yes (g := g) (h := h) hp hq hl (hA.out.any (L := L)) ⟨⟨h1, hP.out⟩, lx0⟩ hw
      rw [hc0] at cA
      have cM := fun w => must_ok c0 w
      have hset : ∀ (u v : Nat), ∀ j, j < n → wordG q n len P i v j = if j = i then v else wordG q n len P i u j := fun u v j _ => by
        unfold wordG
        by_cases hji : j = i
        · simp [hji]
        · simp [hji]
      have m8 := mem8 (marks Ds) (wordG q n len P i 0)
      have m5 := mem5 (marks Ds) (wordG q n len P i 0)
      have m4 := mem4 (marks Ds) (wordG q n len P i 0)
      have m3 := mem3 (marks Ds) (wordG q n len P i 0)
      replace hin := Held.mk hin
      replace hi1 := Held.mk hi1
      replace hmu := Held.mk hmu
      replace ec0 := Held.mk ec0
      replace hset := Held.mk hset
      clear hi hik hx0 hc0
      repeat (first | (obtain ⟨x, tm', e, ht'⟩ := xAu ht; clear ht; subst e; have ht := ht'; clear ht') | (obtain ⟨tm', e, ht'⟩ := xAj ht; clear ht; subst e; have ht := ht'; clear ht'))
      obtain rfl := xAz ht
      clear ht
      go_wp2_with (first | (refine' xAb hR rfl rfl rfl ?_; clear hR; intro blk w hR) | (refine' xAa hR rfl rfl inferInstance ?_; clear hR; intro blk w hR) | (refine' aFq hR rfl rfl rfl inferInstance ?_) | (refine' aGq hR rfl rfl rfl inferInstance ?_) | (refine' aHq hR rfl rfl rfl inferInstance ?_) | (refine' aIq hR rfl rfl rfl inferInstance rfl ?_; clear hR; intro w hR) | (refine' aJq hR rfl rfl rfl inferInstance rfl rfl ?_; clear hR; intro w hR) | fail)
      try simp only [Act.put, kA, kB, List.setIfInBounds_toArray]
      refine xAi hR [0, 0, 0, 0, 0, 0, 0, 0, 0, 0, 0, 0, 0, 2] [] xCf (by kernel_rfl) rfl rfl (fun K hK => ?_)
      clear hR
      repeat ((first | (refine xBl ?_) | (refine' xAr (by decide) rfl (.inl rfl) rfl ?ha ?_) | (refine' xAr (by decide) rfl (.inr rfl) rfl ?ha ?_) | (refine' xAp rfl rfl rfl inferInstance ?hm ?hn ?ha ?_; (case hm => first | with_reducible assumption | repeat (first | exact .head _ | with_reducible assumption | apply mC)); (case hn => first | rfl | simp)) | (refine' xAk rfl rfl rfl inferInstance ?hm ?hv ?hn ?ha ?_; (case hm => first | with_reducible assumption | repeat (first | exact .head _ | with_reducible assumption | apply mC)); (case hv => first | with_reducible assumption | (simp only [kC, kD, kE, kF]; try rfl)); (case hn => first | rfl | simp)) | (refine' xAf rfl rfl rfl inferInstance ?hm ?hv ?ha ?_; (case hm => first | with_reducible assumption | repeat (first | exact .head _ | with_reducible assumption | apply mC)); (case hv => first | rfl | with_reducible assumption)) | (refine' xAl rfl rfl rfl inferInstance ?hm ?hv ?hn ?ha ?_; (case hm => first | with_reducible assumption | repeat (first | exact .head _ | with_reducible assumption | apply mC)); (case hv => first | with_reducible assumption | (simp only [kC, kD, kE, kF]; try rfl)); (case hn => first | rfl | simp)) | (refine' xAe rfl rfl rfl inferInstance ?hm ?hv ?ha ?_; (case hm => first | with_reducible assumption | repeat (first | exact .head _ | with_reducible assumption | apply mC)); (case hv => first | rfl | with_reducible assumption)) | ((first | refine' xAd (by decide) rfl rfl rfl rfl (fun w => ?hq) ?ha ?_ | refine' xBb (by decide) rfl rfl rfl rfl (fun w => ?hq) ?ha ?_ | refine' xAm (by decide) rfl rfl rfl (fun w => ?hq) ?ha ?_ | refine' xAc (by decide) rfl rfl rfl (fun w => ?hq) ?ha ?_ | refine' xAo (by decide) rfl rfl rfl (fun w => ?hq) ?ha ?_ | refine' xBd (by decide) rfl rfl rfl rfl (fun w => ?hq) ?ha ?_ | refine' xBa (by decide) rfl rfl rfl rfl rfl rfl (fun w => ?hq) ?ha ?_ | refine' xBe (by decide) rfl rfl (fun w => ?hq) ?ha ?_ | refine' xAn (by decide) rfl rfl rfl (fun w => ?hq) ?ha ?_ | refine' xBc (by decide) rfl rfl rfl (fun w => ?hq) ?ha ?_); (case hq => go_simp; try rfl)) | (refine' xAg (by decide) rfl rfl rfl ?ha ?_) | (refine' xBk (by decide) rfl rfl rfl rfl ?ha ?_) | (refine' xBm (by decide) rfl ?ha ?_) | (refine' xBj rfl rfl rfl (xBi Try.func13 (by kernel_rfl) (by kernel_rfl) _) (fun w => cO w) ?ha ?_) | (refine' hd_callR rfl rfl rfl (xBi Try.func10 (by kernel_rfl) (by kernel_rfl) _) (fun w hw => cA _ w hw) ?ha ?_) | (refine' xBj rfl rfl rfl (xBi Try.func63 (by kernel_rfl) (by kernel_rfl) _) (fun w => cM w) ?ha ?_)); try (case ha => simp only [kP, kQ, kA, kB]; try rfl))
      refine xBp (hK _ _ ?_)
      clear hK K
      refine xBw (fun Q hQ => ?_)
      try simp only [List.nil_append, List.cons_append]
      try simp only [kP, kQ, kA, kB]
      refine tl_y (yields_storeN (t := 24) (i := i) (n := n) (v := c0) (f := wordG q n len P i 0) (f' := wordG q n len P i c0) rfl rfl rfl rfl hin.out (hset.out 0 c0) (show xAw ((blk, _) :: (marks Ds ++ (M ++ wL p q g h n len cp a gb b8 b5 b4 b3 (wordG q n len P i 0)))) gb _ _ ((blk, _) :: (marks Ds ++ (M ++ wL p q g h n len cp a gb b8 b5 b4 b3 (wordG q n len P i c0)))) from .tail (xAw.app (xAw.app (.tail .head) M) (marks Ds)))) (fun p hp => absurd hp List.not_mem_nil) rfl ?_
      refine xBx (fun w hR => hQ _ _ ?_)
      clear hQ Q m8 m5 m4 m3 cO cA cM
      have m8 := mem8 (marks Ds) (wordG q n len P i c0)
      have m4 := mem4 (marks Ds) (wordG q n len P i c0)
      have m3 := mem3 (marks Ds) (wordG q n len P i c0)
      go_wp2_with (first | (refine' xAb hR rfl rfl rfl ?_; clear hR; intro blk w hR) | (refine' xAa hR rfl rfl inferInstance ?_; clear hR; intro blk w hR) | (refine' aFq hR rfl rfl rfl inferInstance ?_) | (refine' aGq hR rfl rfl rfl inferInstance ?_) | (refine' aHq hR rfl rfl rfl inferInstance ?_) | (refine' aIq hR rfl rfl rfl inferInstance rfl ?_; clear hR; intro w hR) | (refine' aJq hR rfl rfl rfl inferInstance rfl rfl ?_; clear hR; intro w hR) | (go_at_call 64; refine (dothers_rep _ _ hR).mono ?_; clear hR; rintro e w ⟨Bn, Bi, rfl, hR⟩))
      obtain ⟨c, hc_⟩ : ∃ y, y = blk := ⟨_, rfl⟩
      subst hc_
      clear m8 m4 m3
      refine range_others (B0 := B0) (w0 := w0) (n := n) (i := i) Ds Bn Bi (fun pre => (Bn, Obj.cells [Value.int .i64 (n : Int)].toArray 3) :: (Bi, Obj.cells [Value.int .i64 ((i : Int) + 1)].toArray 3) :: (c, Obj.cells [Value.int .i64 (i : Int)].toArray 3) :: (M ++ wL p q g h n len cp a gb b8 b5 b4 b3 (wordG q n len P i (wdL q c0 i pre)))) rfl (by omega) (by have := hin.out; omega) (fun pre => .head _) (fun pre => .tail _ (.head _)) ?hR ?hL ?hvars ?hbody ?hdone
      case hR =>
        rw [wdL_nil]
        exact hR.permN (List.perm_append_comm_assoc [_, _, _] (marks Ds) _)
      case hL =>
        intro pre x hx
        rcases List.mem_cons.1 hx with rfl | hx
        · rfl
        rcases List.mem_cons.1 hx with rfl | hx
        · rfl
        rcases List.mem_cons.1 hx with rfl | hx
        · rfl
        rcases List.mem_append.1 hx with hx | hx
        · exact hM.out x hx
        · unfold wL at hx
          simp only [List.mem_cons, List.not_mem_nil, or_false] at hx
          rcases hx with rfl | rfl | rfl | rfl | rfl <;> rfl
      case hvars =>
        clear hR
        intro k pre x W2 K hR hK
        replace hK := Held.mk hK
        simp only [List.set_cons_succ, List.set_cons_zero]
        gi_wp2
        exact hK.out _ hR
      case hbody =>
        clear hR
        intro k pre x W2 hR
        unfold slotsO
        simp only [List.set_cons_succ, List.set_cons_zero]
        obtain ⟨cur, hcur⟩ : ∃ r, wdL q c0 i pre = r := ⟨_, rfl⟩
        have lcur : cur < q := by rw [← hcur]; exact wdL_lt h1 lc0 pre
        have hxl := x.2
        obtain ⟨y, hy⟩ : ∃ y, x.1 = y := ⟨_, rfl⟩
        rw [hy] at hxl
        obtain ⟨dv, hdv⟩ : ∃ r, sOf q ((i : Int) - (y : Int)) = r := ⟨_, rfl⟩
        have ldv : dv < q := by rw [← hdv]; exact sOf_lt h1 _
        have gdv : Nat.gcd dv q = 1 := by rw [← hdv]; exact hd.out i y hin.out hxl.1 (Ne.symm hxl.2)
        obtain ⟨iv, hiv⟩ : ∃ r, invM dv q = r := ⟨_, rfl⟩
        have liv : iv < q := by rw [← hiv]; exact (invM_spec h1 ldv gdv).1
        obtain ⟨nv, hnv⟩ : ∃ r, mulN cur iv q = r := ⟨_, rfl⟩
        have enx : wdL q c0 i (pre ++ [x]) = nv := by rw [wdL_snoc, hcur, hy, hdv, hiv, hnv]
        rw [hcur] at hR
        rw [enx, hy]
        have es : IntKind.i64.wrap ((i : Int) + 1 - ((y : Int) + 1)) = (i : Int) - (y : Int) := by have := hin.out; rw [IntKind.wrap_i64]; omega
        obtain ⟨C, hC⟩ : ∃ C : World → Prop, C = RK W2 B0 w0 ((Bn, Obj.cells [Value.int .i64 (n : Int)].toArray 3) :: (Bi, Obj.cells [Value.int .i64 ((i : Int) + 1)].toArray 3) :: (c, Obj.cells [Value.int .i64 (i : Int)].toArray 3) :: (M ++ wL p q g h n len cp a gb b8 b5 b4 b3 (wordG q n len P i cur))) := ⟨_, rfl⟩
        have l8 : ∀ w, C w → (loadVar 27 ⟨b8, 0, none⟩).run Try.prog w = .ok (.slice (some ⟨gb, 0, none⟩) n n) w := fun w hw => by
          rw [hC] at hw
          exact hw.rep.loadCell (P := Try.prog) (ty := 27) (mem8 [_, _, _] _) rfl
        have lc : ∀ w, C w → (loadVar 3 ⟨c, 0, none⟩).run Try.prog w = .ok (.int .i64 (i : Int)) w := fun w hw => by
          rw [hC] at hw
          exact hw.rep.loadCell (P := Try.prog) (ty := 3) (.tail _ (.tail _ (.head _))) rfl
        have l3 : ∀ w, C w → (loadVar 26 ⟨b3, 0, none⟩).run Try.prog w = .ok (grp p q g h) w := fun w hw => by
          rw [hC] at hw
          exact hw.rep.loadAll (P := Try.prog) (ty := 26) (mem3 [_, _, _] _) rfl
        have lr : ∀ w, C w → (loadVar 24 ⟨gb, i * 4, none⟩).run Try.prog w = .ok (num cur) w := fun w hw => by
          rw [hC] at hw
          have hrow := rowsN_row (f := wordG q n len P i cur) hin.out
          rw [show wordG q n len P i cur i = cur by unfold wordG; simp] at hrow
          exact hw.rep.loadRow (P := Try.prog) (ty := 24) (.tail _ (.tail _ (.tail _ (List.mem_append_right _ (.tail _ (.head _)))))) hrow rfl
        have kC : ∀ {w w' : World}, C w → Below w.heap.size w w' → C w' := fun hw hb => by
          rw [hC] at hw ⊢
          exact hw.call hb
        have q1 : ∀ w, C w → Calls Try.prog 13 #[grp p q g h, .int .i64 ((i : Int) - (y : Int))] w fun e w' => e = .returned (num dv) ∧ C w' := fun w hw => (SO (p := p) (g := g) (h := h) hq (by have := hin.out; omega) (by have := hin.out; omega) hdv w).mono fun e w' ⟨he, hb⟩ => ⟨he, kC hw hb⟩
        have q2 : ∀ w, C w → Calls Try.prog 17 #[grp p q g h, num dv] w fun e w' => e = .returned (.tuple #[num iv, .int .i64 0]) ∧ C w' := fun w hw => (SI (p := p) (g := g) (h := h) hq h1 ldv gdv hiv w).mono fun e w' ⟨he, hb⟩ => ⟨he, kC hw hb⟩
        have q3 : ∀ w, C w → Calls Try.prog 63 #[num iv, .int .i64 0] w fun e w' => e = .returned (num iv) ∧ C w' := fun w hw => (must_ok iv w).mono fun e w' ⟨he, hb⟩ => ⟨he, kC hw hb⟩
        have q4 : ∀ w, C w → Calls Try.prog 15 #[grp p q g h, num cur, num iv] w fun e w' => e = .returned (.tuple #[num nv, .int .i64 0]) ∧ C w' := fun w hw => (SM (p := p) (g := g) (h := h) hq h1 lcur liv hnv w).mono fun e w' ⟨he, hb⟩ => ⟨he, kC hw hb⟩
        have q5 : ∀ w, C w → Calls Try.prog 63 #[num nv, .int .i64 0] w fun e w' => e = .returned (num nv) ∧ C w' := fun w hw => (must_ok nv w).mono fun e w' ⟨he, hb⟩ => ⟨he, kC hw hb⟩
        have hCR : C W2.drew := by rw [hC]; exact hR.drew
        clear kC hR hcur lcur hdv ldv gdv hiv liv hnv enx hxl
        refine wpIn_block ?_
        refine wpIn_region_ordC C hCR [0, 0, 0, 0, 0, 0, 0, 0, 0, 0, 0, 0, 0, 0, 0, 0, 0, 0, 0, 0, 0, 0, 0, 2] (fun ⟨_, _, hh⟩ => hh) rfl xCf (by kernel_rfl) rfl rfl (fun K hK => ?_)
        repeat ((first | (refine' hd_loadC rfl rfl rfl l8 ?ha ?_) | (refine' hd_loadC rfl rfl rfl lc ?ha ?_) | (refine' hd_loadC rfl rfl rfl l3 ?ha ?_) | (refine' hd_loadC rfl rfl rfl lr ?ha ?_) | (refine' hd_callG rfl rfl rfl (fun w => xBi Try.func13 (by kernel_rfl) (by kernel_rfl) _ w) q1 ?ha ?_) | (refine' hd_callG rfl rfl rfl (fun w => xBi Try.func17 (by kernel_rfl) (by kernel_rfl) _ w) q2 ?ha ?_) | (refine' hd_callG rfl rfl rfl (fun w => xBi Try.func63 (by kernel_rfl) (by kernel_rfl) _ w) q3 ?ha ?_) | (refine' hd_callG rfl rfl rfl (fun w => xBi Try.func15 (by kernel_rfl) (by kernel_rfl) _ w) q4 ?ha ?_) | (refine' hd_callG rfl rfl rfl (fun w => xBi Try.func63 (by kernel_rfl) (by kernel_rfl) _ w) q5 ?ha ?_) | (refine xBl ?_) | (refine' xAr (by decide) rfl (.inl rfl) rfl ?ha ?_) | (refine' xAr (by decide) rfl (.inr rfl) rfl ?ha ?_) | (refine' xAp rfl rfl rfl inferInstance ?hm ?hn ?ha ?_; (case hm => first | with_reducible assumption | repeat (first | exact .head _ | with_reducible assumption | apply mC)); (case hn => first | rfl | simp)) | (refine' xAk rfl rfl rfl inferInstance ?hm ?hv ?hn ?ha ?_; (case hm => first | with_reducible assumption | repeat (first | exact .head _ | with_reducible assumption | apply mC)); (case hv => first | with_reducible assumption | (simp only [kC, kD, kE, kF]; try rfl)); (case hn => first | rfl | simp)) | (refine' xAf rfl rfl rfl inferInstance ?hm ?hv ?ha ?_; (case hm => first | with_reducible assumption | repeat (first | exact .head _ | with_reducible assumption | apply mC)); (case hv => first | rfl | with_reducible assumption)) | (refine' xAl rfl rfl rfl inferInstance ?hm ?hv ?hn ?ha ?_; (case hm => first | with_reducible assumption | repeat (first | exact .head _ | with_reducible assumption | apply mC)); (case hv => first | with_reducible assumption | (simp only [kC, kD, kE, kF]; try rfl)); (case hn => first | rfl | simp)) | (refine' xAe rfl rfl rfl inferInstance ?hm ?hv ?ha ?_; (case hm => first | with_reducible assumption | repeat (first | exact .head _ | with_reducible assumption | apply mC)); (case hv => first | rfl | with_reducible assumption)) | ((first | refine' xAd (by decide) rfl rfl rfl rfl (fun w => ?hq) ?ha ?_ | refine' xBb (by decide) rfl rfl rfl rfl (fun w => ?hq) ?ha ?_ | refine' xAm (by decide) rfl rfl rfl (fun w => ?hq) ?ha ?_ | refine' xAc (by decide) rfl rfl rfl (fun w => ?hq) ?ha ?_ | refine' xAo (by decide) rfl rfl rfl (fun w => ?hq) ?ha ?_ | refine' xBd (by decide) rfl rfl rfl rfl (fun w => ?hq) ?ha ?_ | refine' xBa (by decide) rfl rfl rfl rfl rfl rfl (fun w => ?hq) ?ha ?_ | refine' xBe (by decide) rfl rfl (fun w => ?hq) ?ha ?_ | refine' xAn (by decide) rfl rfl rfl (fun w => ?hq) ?ha ?_ | refine' xBc (by decide) rfl rfl rfl (fun w => ?hq) ?ha ?_); (case hq => go_simp; try rfl)) | (refine' xAg (by decide) rfl rfl rfl ?ha ?_) | (refine' xBk (by decide) rfl rfl rfl rfl ?ha ?_) | (refine' xBm (by decide) rfl ?ha ?_)); try (case ha => simp only [kP, kQ, kA, kB]; try rfl))
        refine xBp (hK _ _ ?_)
        clear hK K
        refine xBw (fun Q hQ => ?_)
        refine' tl_storeC (RK W2 B0 w0 ((Bn, Obj.cells [Value.int .i64 (n : Int)].toArray 3) :: (Bi, Obj.cells [Value.int .i64 ((i : Int) + 1)].toArray 3) :: (c, Obj.cells [Value.int .i64 (i : Int)].toArray 3) :: (M ++ wL p q g h n len cp a gb b8 b5 b4 b3 (wordG q n len P i nv)))) rfl rfl rfl rfl (fun w hw => ?hq) ?ha ?_
        case hq =>
          rw [hC] at hw
          exact hw.storeRow (P := Try.prog) (ty := 24) (off := i * 4) (vs := nl nv) (l' := xCg (wordG q n len P i nv) n) rfl rfl (show xAw ((Bn, Obj.cells [Value.int .i64 (n : Int)].toArray 3) :: (Bi, Obj.cells [Value.int .i64 ((i : Int) + 1)].toArray 3) :: (c, Obj.cells [Value.int .i64 (i : Int)].toArray 3) :: (M ++ wL p q g h n len cp a gb b8 b5 b4 b3 (wordG q n len P i cur))) gb _ _ ((Bn, Obj.cells [Value.int .i64 (n : Int)].toArray 3) :: (Bi, Obj.cells [Value.int .i64 ((i : Int) + 1)].toArray 3) :: (c, Obj.cells [Value.int .i64 (i : Int)].toArray 3) :: (M ++ wL p q g h n len cp a gb b8 b5 b4 b3 (wordG q n len P i nv))) from .tail (.tail (.tail (xAw.app (.tail .head) M)))) (by have := hin.out; rw [xBs]; omega) (rowsN_set hin.out (hset.out cur nv))
        case ha => simp only [Act.put, kA, kB, List.setIfInBounds_toArray]; try rfl
        refine xBx (fun w hw => hQ _ _ ?_)
        clear hQ Q
        exact ⟨hw, trivial⟩
      case hdone =>
        clear hR
        intro D W2 hR
        have ek : ((i + 1 : Nat) : Int) = (i : Int) + 1 := by omega
        replace ek := Held.mk ek
        go_wp2_with (first | (refine' xAb hR rfl rfl rfl ?_; clear hR; intro blk w hR) | (refine' xAa hR rfl rfl inferInstance ?_; clear hR; intro blk w hR) | (refine' aFq hR rfl rfl rfl inferInstance ?_) | (refine' aGq hR rfl rfl rfl inferInstance ?_) | (refine' aHq hR rfl rfl rfl inferInstance ?_) | (refine' aIq hR rfl rfl rfl inferInstance rfl ?_; clear hR; intro w hR) | (refine' aJq hR rfl rfl rfl inferInstance rfl rfl ?_; clear hR; intro w hR) | fail)
        refine hK.out (i + 1, D :: Ds) _ _ hi1.out hmu.out (by simp only [ek.out]; exact xBh rfl rfl rfl) ?_
        have er : xCg (wordG q n len P i (wdL q c0 i (othL n i n))) n = xCg (wordG q n len P (i + 1) 0) n := xCd fun j hj => by
          unfold wordG
          by_cases h2 : j = i
          · subst h2
            rw [if_neg (Nat.lt_irrefl j), if_pos rfl, if_pos (Nat.lt_succ_self j), wdL_all n (Nat.le_refl n), wordF, ec0.out]
          · by_cases h3 : j < i
            · rw [if_pos h3, if_pos (by omega)]
            · rw [if_neg h3, if_neg h2, if_neg (by omega)]
              split <;> rfl
        show Rep B0 w0 (marks (D :: Ds) ++ (M ++ wL p q g h n len cp a gb b8 b5 b4 b3 (wordG q n len P (i + 1) 0))) W2
        unfold wL at hR ⊢
        rw [er] at hR
        exact hR.weaken (List.Sublist.append (List.Sublist.refl _) (.cons _ (.cons _ (.cons _ (List.Sublist.refl _)))))
end
end Go.Proofs.Ytgfoeongjhkdmaa
namespace Go.Proofs.Ytgfoeongjhkdmaa
open Go.RowKit
attribute [local irreducible] Calls Instr.build Instr.buildSlice Instr.makeSlice
section
variable {B0 : Nat} {w0 w W : World} {L : List (Nat × Obj)} {p q g h n len cp : Nat} {a : Option Addr} {P : Nat → Nat}
instance zeroNumsD : ZeroT Try.prog 27 [.slice none 0 0] := ⟨.slice none 0 0, by kernel_rfl, rfl⟩
set_option maxRecDepth 100000 in
set_option maxHeartbeats 4000000 in
theorem word_bad (m : Int) (hbad : m < 1 ∨ 7 < m ∨ m ≤ (len : Int)) (hR : Rep B0 w0 L w) : Calls Try.prog 42 #[grp p q g h, .int .i64 m, .slice a len cp] w fun e w' => e = .returned (.tuple #[.slice none 0 0, .int .i64 1]) ∧ Rep B0 w0 L w' := by
  obtain ⟨W, hW⟩ : ∃ W, w = W := ⟨_, rfl⟩
  have key : Calls Try.prog 42 #[grp p q g h, .int .i64 m, .slice a len cp] W fun e w' => e = .returned (.tuple #[.slice none 0 0, .int .i64 1]) ∧ Below W.heap.size W w' := by
    clear hR hW
    have hR := Rep.init W
    by_cases c1 : m < 1
    · have d1 : decide (m < 1) = true := decide_eq_true c1
      clear hbad
      go_enter Try.func42, Try.ntmps42
      go_wp2_with (first | go_skip | (refine' xAb hR rfl rfl rfl ?_; clear hR; intro blk w hR) | (refine' xAa hR rfl rfl inferInstance ?_; clear hR; intro blk w hR) | (refine' aFq hR rfl rfl rfl inferInstance ?_) | (refine' aGq hR rfl rfl rfl inferInstance ?_) | (refine' aHq hR rfl rfl rfl inferInstance ?_) | (refine' aIq hR rfl rfl rfl inferInstance rfl ?_; clear hR; intro w hR) | (refine' aJq hR rfl rfl rfl inferInstance rfl rfl ?_; clear hR; intro w hR) | (refine' xAq hR rfl rfl rfl inferInstance ?hm ?hn ?_; (case hm => first | with_reducible assumption | repeat (first | exact .head _ | with_reducible assumption | apply mC)); (case hn => first | rfl | simp)) | (refine' xAh hR rfl rfl rfl inferInstance ?hm ?hv ?_; (case hm => first | with_reducible assumption | repeat (first | exact .head _ | with_reducible assumption | apply mC)); (case hv => first | rfl | with_reducible assumption)) | (refine' xAs hR rfl rfl rfl inferInstance ?hm ?hv ?hn ?_; (case hm => first | with_reducible assumption | repeat (first | exact .head _ | with_reducible assumption | apply mC)); (case hv => first | with_reducible assumption | (simp only [kC, kD, kE, kF]; try rfl)); (case hn => first | rfl | simp)) | fail)
      go_ret2
      exact ⟨rfl, hR.below⟩
    have d1 : decide (m < 1) = false := decide_eq_false c1
    by_cases c2 : 7 < m
    · have d2 : decide (7 < m) = true := decide_eq_true c2
      clear hbad
      go_enter Try.func42, Try.ntmps42
      go_wp2_with (first | go_skip | (refine' xAb hR rfl rfl rfl ?_; clear hR; intro blk w hR) | (refine' xAa hR rfl rfl inferInstance ?_; clear hR; intro blk w hR) | (refine' aFq hR rfl rfl rfl inferInstance ?_) | (refine' aGq hR rfl rfl rfl inferInstance ?_) | (refine' aHq hR rfl rfl rfl inferInstance ?_) | (refine' aIq hR rfl rfl rfl inferInstance rfl ?_; clear hR; intro w hR) | (refine' aJq hR rfl rfl rfl inferInstance rfl rfl ?_; clear hR; intro w hR) | (refine' xAq hR rfl rfl rfl inferInstance ?hm ?hn ?_; (case hm => first | with_reducible assumption | repeat (first | exact .head _ | with_reducible assumption | apply mC)); (case hn => first | rfl | simp)) | (refine' xAh hR rfl rfl rfl inferInstance ?hm ?hv ?_; (case hm => first | with_reducible assumption | repeat (first | exact .head _ | with_reducible assumption | apply mC)); (case hv => first | rfl | with_reducible assumption)) | (refine' xAs hR rfl rfl rfl inferInstance ?hm ?hv ?hn ?_; (case hm => first | with_reducible assumption | repeat (first | exact .head _ | with_reducible assumption | apply mC)); (case hv => first | with_reducible assumption | (simp only [kC, kD, kE, kF]; try rfl)); (case hn => first | rfl | simp)) | fail)
      go_ret2
      exact ⟨rfl, hR.below⟩
    have d2 : decide (7 < m) = false := decide_eq_false c2
    have c3 : m ≤ (len : Int) := by omega
    have d3 : decide (m ≤ (len : Int)) = true := decide_eq_true c3
    clear hbad
    go_enter Try.func42, Try.ntmps42
    go_wp2_with (first | go_skip | (refine' xAb hR rfl rfl rfl ?_; clear hR; intro blk w hR) | (refine' xAa hR rfl rfl inferInstance ?_; clear hR; intro blk w hR) | (refine' aFq hR rfl rfl rfl inferInstance ?_) | (refine' aGq hR rfl rfl rfl inferInstance ?_) | (refine' aHq hR rfl rfl rfl inferInstance ?_) | (refine' aIq hR rfl rfl rfl inferInstance rfl ?_; clear hR; intro w hR) | (refine' aJq hR rfl rfl rfl inferInstance rfl rfl ?_; clear hR; intro w hR) | (refine' xAq hR rfl rfl rfl inferInstance ?hm ?hn ?_; (case hm => first | with_reducible assumption | repeat (first | exact .head _ | with_reducible assumption | apply mC)); (case hn => first | rfl | simp)) | (refine' xAh hR rfl rfl rfl inferInstance ?hm ?hv ?_; (case hm => first | with_reducible assumption | repeat (first | exact .head _ | with_reducible assumption | apply mC)); (case hv => first | rfl | with_reducible assumption)) | (refine' xAs hR rfl rfl rfl inferInstance ?hm ?hv ?hn ?_; (case hm => first | with_reducible assumption | repeat (first | exact .head _ | with_reducible assumption | apply mC)); (case hv => first | with_reducible assumption | (simp only [kC, kD, kE, kF]; try rfl)); (case hn => first | rfl | simp)) | fail)
    go_ret2
    exact ⟨rfl, hR.below⟩
  rw [hW] at hR ⊢
  exact key.mono fun e w' ⟨h1, h2⟩ => ⟨h1, hR.call h2⟩
set_option maxRecDepth 100000 in
set_option maxHeartbeats 4000000 in
theorem word_go (hp : p < B) (hq : q < B) (h1 : 1 < q) (hA : NAt W.heap.size W [] a len cp P) (hP : ∀ j, j < len → P j < q) (hd : difOK q n) (hn1 : 1 ≤ n) (hn7 : n ≤ 7) (hl : len < n) :
    Calls Try.prog 42 #[grp p q g h, .int .i64 (n : Int), .slice a len cp] W fun e w' => ∃ gb, e = .returned (.tuple #[.slice (some ⟨gb, 0, none⟩) n n, .int .i64 0]) ∧ Rep W.heap.size W [(gb, .cells (xCg (wordF q n len P) n).toArray 24)] w' := by
  have hR := Rep.init W
  have hmf : ∀ (fn : Fn) (first cap : Array Value) (w : World), (Instr.makeFunc fn first cap).run Try.prog w = .ok (.func fn first cap) w := fun _ _ _ _ => rfl
  have d1 : decide ((n : Int) < 1) = false := decide_eq_false (by omega)
  have d1' : ¬ (n : Int) < 1 := by omega
  have d2 : decide (7 < (n : Int)) = false := decide_eq_false (by omega)
  have d2' : ¬ 7 < (n : Int) := by omega
  have d3 : decide ((n : Int) ≤ (len : Int)) = false := decide_eq_false (by omega)
  have d3' : ¬ (n : Int) ≤ (len : Int) := by omega
  have hnM : n ≤ 1000000 := by omega
  have cw := fun (gb b8 b5 b4 b3 : Nat) (M : List (Nat × Obj)) (w : World) (hM : ∀ x ∈ M, x.2.isCells = true) (hw : Rep W.heap.size W (M ++ wL p q g h n len cp a gb b8 b5 b4 b3 (fun _ => 0)) w) => word1_any hp hq h1 hA (by omega) hP hd (by omega) M hM hw
  clear hA hP hd
  go_enter Try.func42, Try.ntmps42
  go_wp2_with (first | go_skip | (refine' xAb (l := [.int .i64 (n : Int)]) hR rfl rfl rfl ?_; clear hR; intro blk w hR) | (refine' xAb (l := [.slice a len cp]) hR rfl rfl rfl ?_; clear hR; intro blk w hR) | (refine' xAb hR rfl rfl rfl ?_; clear hR; intro blk w hR) | (refine' xAa hR rfl rfl inferInstance ?_; clear hR; intro blk w hR) | (refine' aFq hR rfl rfl rfl inferInstance ?_) | (refine' aGq hR rfl rfl rfl inferInstance ?_) | (refine' aHq hR rfl rfl rfl inferInstance ?_) | (refine' aIq hR rfl rfl rfl inferInstance rfl ?_; clear hR; intro w hR) | (refine' aJq hR rfl rfl rfl inferInstance rfl rfl ?_; clear hR; intro w hR) | (refine' xAq hR rfl rfl rfl inferInstance ?hm ?hn ?_; (case hm => first | with_reducible assumption | repeat (first | exact .head _ | with_reducible assumption | apply mC)); (case hn => first | rfl | simp)) | (refine' xAh hR rfl rfl rfl inferInstance ?hm ?hv ?_; (case hm => first | with_reducible assumption | repeat (first | exact .head _ | with_reducible assumption | apply mC)); (case hv => first | rfl | with_reducible assumption)) | (refine' xAs hR rfl rfl rfl inferInstance ?hm ?hv ?hn ?_; (case hm => first | with_reducible assumption | repeat (first | exact .head _ | with_reducible assumption | apply mC)); (case hv => first | with_reducible assumption | (simp only [kC, kD, kE, kF]; try rfl)); (case hn => first | rfl | simp)) | (refine' wpList_new hR (isNew_numsZ rfl rfl rfl rfl hnM) ?_; clear hR; intro blk w hR) | (go_at_call 61; refine (stopped_word [_, _, _, _] (fun M w hM hw => cw _ _ _ _ _ M w hM hw) hR).mono ?_; clear hR; rintro e w ⟨rfl, hR⟩; unfold wL at hR))
  go_ret2
  exact ⟨_, rfl, hR.weaken (.cons _ (.cons_cons _ (List.nil_sublist _)))⟩
theorem word_yes (hp : p < B) (hq : q < B) (h1 : 1 < q) (hA : NAt B0 w0 L a len cp P) (hP : ∀ j, j < len → P j < q) (hd : difOK q n) (hn1 : 1 ≤ n) (hn7 : n ≤ 7) (hl : len < n) (hR : Rep B0 w0 L w) :
    Calls Try.prog 42 #[grp p q g h, .int .i64 (n : Int), .slice a len cp] w fun e w' => ∃ gb, e = .returned (.tuple #[.slice (some ⟨gb, 0, none⟩) n n, .int .i64 0]) ∧ Rep B0 w0 ((gb, .cells (xCg (wordF q n len P) n).toArray 24) :: L) w' :=
  (word_go (g := g) (h := h) hp hq h1 (hA.here hR) hP hd hn1 hn7 hl).mono fun e w' ⟨gb, h1, h2⟩ => ⟨gb, h1, hR.join h2⟩
end
end Go.Proofs.Ytgfoeongjhkdmaa
