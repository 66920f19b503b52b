import Derived.Test.YtaaahfjpnggkbaaGreatDoorZZ
import Derived.Test.YtaaahfjpnggkbaaGreatDoorZI
import Derived.Test.YtaaahfjpnggkbaaGreatDoorZO
import Derived.Test.YtaaahfjpnggkbaaGreatDoorZF
import Derived.Test.YtaaahfjpnggkbaaGreatDoorZQ
set_option linter.unusedSimpArgs false
set_option linter.unusedVariables false
set_option maxRecDepth 100000
set_option maxHeartbeats 20000000
namespace Go.Proofs.YtaaahfjpnggkbaaGreatDoor
open Go.RowKit
section
attribute [local go_sem] Oper.semAt_some
section
variable {F : Fence} {n0 : Nat} {P : Program} {ops : Array Oper} {rest : List Oper} {o : Oper} {a : Act} {w : World} {Q : Exit → Act → World → Prop}
theorem in_unw (hw : Region.wanted o (yielded ops a.tmps) = false) (hab : o.about P w a.eval = none) (h : wpListIn F n0 P ops Q rest (a.put o.dst undef) w) : wpListIn F n0 P ops Q (o :: rest) a w := by
 unfold wpListIn
 rw [if_neg (by rw [hw]; exact Bool.false_ne_true)]
 exact ⟨fun f hf => (by rw [hab] at hf; cases hf), h⟩
end
abbrev Oth (len i0 : Nat) := { k : Nat // k < len ∧ k ≠ i0 }
def othL (len i0 m : Nat) : List (Oth len i0) := (List.range m).filterMap fun k => if h : k < len ∧ k ≠ i0 then some ⟨k, h⟩ else none
theorem othL_same {len i0 : Nat} : othL len i0 (i0 + 1) = othL len i0 i0 := by
 unfold othL
 rw [List.range_succ, List.filterMap_append]
 simp
theorem othL_next {len i0 m : Nat} (h : m < len ∧ m ≠ i0) : othL len i0 (m + 1) = othL len i0 m ++ [⟨m, h⟩] := by
 unfold othL
 rw [List.range_succ, List.filterMap_append]
 simp [h]
theorem othL_len (len i0 m : Nat) : (othL len i0 m).length ≤ m := by
 have := List.length_filterMap_le (fun k => if h : k < len ∧ k ≠ i0 then some (⟨k, h⟩ : Oth len i0) else none) (List.range m)
 simpa [othL] using this
theorem othersN1_in (F : Fence) (n : Nat) (h7 : F.fn 176) (hro : F.round = none) (hn : 1 ≤ n) (l Bn Bi len i0 : Nat) (hlen : len ≤ 1000000) (hi0 : i0 ≤ 1000000) (J Jx : List (Oth len i0) → World → Prop)
  (hY : ∀ pre (x : Oth len i0) W, J pre W → pre.length < len → YieldAt F (n - 1) Tryz.prog l #[.int .i64 ((x.1 : Int) + 1)] W fun e W' =>
   (e = .returned (.bool true) ∧ J (pre ++ [x]) W' ∧ xJl [Bn, Bi] W W') ∨ (e = .returned (.bool false) ∧ Jx (pre ++ [x]) W'))
  (W : World) (hBn : W.cell? ⟨Bn, 0, none⟩ = some (.int .i64 (len : Int))) (hBi : W.cell? ⟨Bi, 0, none⟩ = some (.int .i64 ((i0 : Int) + 1))) (h0 : J [] W) :
  CallsIn F n Tryz.prog 176 #[.func (.yield l) #[] #[], .pointer (some ⟨Bn, 0, none⟩), .pointer (some ⟨Bi, 0, none⟩)] W fun e W' => (∃ v, e = .returned v) ∧
   ((∃ ys, ys = othL len i0 len ∧ J ys W') ∨ (∃ pre, True ∧ Jx pre W')) := by
 refine callsIn_of_wp Tryz.func176 rfl h7 ?_ hro
 simp only [Tryz.ntmps176, List.size_toArray, List.length_cons, List.length_nil, Nat.reduceAdd, Nat.reduceSub, Array.replicate_succ, Array.replicate_zero, List.push_toArray, List.append_toArray, List.nil_append, List.cons_append]
 gi_wp2
 gi_loopw [4] (fun i wr => ∃ m : Nat, m ≤ len ∧ i = .int .i64 ((m : Int) + 1) ∧ J (othL len i0 m) wr ∧ xJl [Bn, Bi] W wr)
  (fun i _ => ((len : Int) + 1 - intOf i).toNat)
 case atStart => exact ⟨0, Nat.zero_le _, rfl, h0, fun _ _ => rfl⟩
 case round =>
  obtain ⟨m, hm, rfl, hJs, hnx⟩ := hrel
  have hbn : wr.cell? ⟨Bn, 0, none⟩ = some (.int .i64 (len : Int)) := (hnx ⟨Bn, 0, none⟩ (by simp)).trans hBn
  have hbi : wr.cell? ⟨Bi, 0, none⟩ = some (.int .i64 ((i0 : Int) + 1)) := (hnx ⟨Bi, 0, none⟩ (by simp)).trans hBi
  have ln : (loadVar 3 ⟨Bn, 0, none⟩).run Tryz.prog wr = .ok (.int .i64 (len : Int)) wr := xEj hbn
  have li : (loadVar 3 ⟨Bi, 0, none⟩).run Tryz.prog wr = .ok (.int .i64 ((i0 : Int) + 1)) wr := xEj hbi
  have ek : IntKind.i64.wrap ((m : Int) + 1 + 1) = ((m + 1 : Nat) : Int) + 1 := by rw [IntKind.wrap_i64]; omega
  by_cases hml : m = len
  ·subst hml
   have t1 : ¬ (m : Int) + 1 ≤ (m : Int) := by omega
   gi_wp2_with (first | (refine' in_unw rfl rfl ?_) | (refine' xCt rfl rfl rfl ln ?_) | (refine' xCt rfl rfl rfl li ?_))
   go_end0
   exact ⟨⟨_, rfl⟩, .inl hJs⟩
  ·have t1 : (m : Int) + 1 ≤ (len : Int) := by omega
   by_cases hmi : m = i0
   ·subst hmi
    have t2 : ((m : Int) + 1 != (m : Int) + 1) = false := by simp
    gi_wp2_with (first | (refine' in_unw rfl rfl ?_) | (refine' xCt rfl rfl rfl ln ?_) | (refine' xCt rfl rfl rfl li ?_))
    go_roundw
    case rel => exact ⟨m + 1, by omega, by rw [← ek]; simp [IntKind.wrap_i64]; omega, by rw [othL_same]; exact hJs, hnx⟩
    case measure => simp [intOf]; omega
   ·have t2 : ((m : Int) + 1 != (i0 : Int) + 1) = true := by simp; omega
    have t3 : ((m : Int) + 1 == (i0 : Int) + 1) = false := by simp; omega
    have t4 : ¬ (m : Int) + 1 = (i0 : Int) + 1 := by omega
    obtain ⟨fn, tmps, assign, body, hy, hR⟩ := hY _ ⟨m, by omega, hmi⟩ wr hJs (by have := othL_len len i0 m; omega)
    dsimp only at hy
    gi_wp2_with (first | (refine' in_unw rfl rfl ?_) | (refine' xCt rfl rfl rfl ln ?_) | (refine' xCt rfl rfl rfl li ?_))
    refine hR.mono ?_
    rintro e W3 (⟨rfl, hJ3, hk3⟩ | ⟨rfl, hJx3⟩)
    ·gi_wp2
     go_roundw
     case rel => exact ⟨m + 1, by omega, by rw [← ek]; simp [IntKind.wrap_i64]; omega, by rw [othL_next ⟨by omega, hmi⟩]; exact hJ3, xHe hnx hk3⟩
     case measure => simp [intOf]; omega
    ·gi_wp2
     refine bodyPost_ret (results_none rfl _ _ _) rfl ?_
     exact ⟨⟨_, rfl⟩, .inr ⟨_, trivial, hJx3⟩⟩
theorem others_stops (F : Fence) (n : Nat) (h7 : F.fn 176) (hro : F.round = none) (hn : 1 ≤ n) (Bn Bi len i0 : Nat) (hlen : len ≤ 1000000) (hi0 : i0 ≤ 1000000) (w : World) (hb : ∀ x ∈ [Bn, Bi], x < w.heap.size)
  (hBn : w.cell? ⟨Bn, 0, none⟩ = some (.int .i64 (len : Int))) (hBi : w.cell? ⟨Bi, 0, none⟩ = some (.int .i64 ((i0 : Int) + 1))) :
  SeqStopsK F n Tryz.prog 176 #[.pointer (some ⟨Bn, 0, none⟩), .pointer (some ⟨Bi, 0, none⟩)] (fun x : Oth len i0 => #[Value.int .i64 ((x.1 : Int) + 1)]) (xJl [Bn, Bi]) (fun ys => ys = othL len i0 len) (fun _ => True) len w := fun l J Jx W hW _ _ hY h0 => by
 have kp : ∀ p : Addr, p.block ∈ [Bn, Bi] → ∀ v, w.cell? p = some v → W.cell? p = some v := fun p hp v hv => (hW.cell (p := p) (by exact hb _ hp)).trans hv
 exact othersN1_in F n h7 hro hn l Bn Bi len i0 hlen hi0 J Jx hY W (kp _ (by simp) _ hBn) (kp _ (by simp) _ hBi) h0
theorem dothers_any (i0 : Int) (len : Int) (w : World) :
  Calls Tryz.prog 104 #[.int .i64 i0, .int .i64 len] w fun e w' => e = .returned (.func (.func 176) #[] #[.pointer (some ⟨w.heap.size + 1, 0, none⟩), .pointer (some ⟨w.heap.size, 0, none⟩)]) ∧ w' = (w.alloc (.cells #[.int .i64 i0] 3)).alloc (.cells #[.int .i64 len] 3) := by
 go_enter Tryz.func104, Tryz.ntmps104
 go_wp2
 go_ret
 exact ⟨rfl, rfl⟩
end
section
def coll (D : Nat) : Deferred := { target := .collected D, args := #[] }
def xDb (Ds : List Nat) : List (Nat × Obj) := Ds.map fun D => (D, .deferred (some []))
theorem marks_mem {Ds : List Nat} {p : Nat × Obj} (h : p ∈ xDb Ds) : p.1 ∈ Ds ∧ p.2 = .deferred (some []) := by
 obtain ⟨D, hD, rfl⟩ := List.mem_map.1 h
 exact ⟨hD, rfl⟩
theorem marks_fst : ∀ Ds : List Nat, (xDb Ds).map (·.1) = Ds
 | [] => rfl
 | D :: Ds => congrArg (D :: ·) (marks_fst Ds)
theorem mem_marks {Ds : List Nat} {D : Nat} (h : D ∈ Ds) : (D, Obj.deferred (some [])) ∈ xDb Ds := List.mem_map.2 ⟨D, h, rfl⟩
section
variable {B0 : Nat} {w0 w W : World} {L : List (Nat × Obj)}
theorem rep_marks (hw : Rep B0 w0 L W) (hL : ∀ p, p ∈ L → p.2.isCells = true) : ∀ {Ds : List Nat}, (∀ D, D ∈ Ds → W.heap[D]? = some (.deferred (some [])) ∧ B0 ≤ D) → Ds.Nodup → Rep B0 w0 (xDb Ds ++ L) W
  | [], _, _ => hw
  | D :: Ds, h, hn => by
    have ih := rep_marks hw hL (Ds := Ds) (fun D hD => h D (.tail _ hD)) (List.nodup_cons.1 hn).2
    refine ih.add (h D (.head _)).2 (h D (.head _)).1 fun p hp e => ?_
    rcases List.mem_append.1 hp with hp | hp
    · rw [← e] at hn
      exact (List.nodup_cons.1 hn).1 (marks_mem hp).1
    · have h1 := (hw.own p hp).2
      have h2 := hL p hp
      rw [e, (h D (.head _)).1] at h1
      rw [← Option.some.inj h1] at h2
      cases h2
theorem xIl {F : Fence} {n : Nat} {P : Program} {fn : Func} {tmps : Array Value} {R : Ending → World → Prop} : ∀ (Ds : List Nat) (W : World), Rep B0 w0 (xDb Ds ++ L) W → (∀ W', Rep B0 w0 L W' → LeavesIn F n P fn tmps R [] .returning W') → LeavesInM F n P fn tmps R (Ds.map coll) .returning W
  | [], W, hR, h => h W hR
  | D :: Ds, W, hR, h => by
    have hR0 : Rep B0 w0 ((D, .deferred (some [])) :: (xDb Ds ++ L)) W := hR
    exact ⟨by simp, .inl ⟨D, _, rfl, run_takeDeferred (hR0.own _ (List.Mem.head _)).2, xIl Ds _ (hR0.putHead (.deferred none)) h⟩⟩
theorem xJj {α : Type} {P : Program} {c : Code} {Q : Exit → Act → World → Prop} {l : List Value} (mask : List Bool) (upd : α → List Value → List Value) (dd : α → List Deferred) (LL : α → List (Nat × Obj)) (μ : α → Nat) (Ok : α → Prop) (x0 : α)
  (h0 : xFf mask (upd x0 l) l) (hO : Ok x0) (hR : Rep B0 w0 (LL x0) w)
  (hs : ∀ x tm w, Ok x → xFf mask (upd x l) tm → Rep B0 w0 (LL x) w → ∀ K : Act → World → Prop, Held (∀ y tm' w', Ok y → μ y < μ x → xFf mask (upd y l) tm' → Rep B0 w0 (LL y) w' → K ⟨tm'.toArray, dd y⟩ w') → c.wp P (Exit.then K Q) ⟨tm.toArray, dd x⟩ w) : (Code.loop c).wp P Q ⟨l.toArray, dd x0⟩ w := by
 have key : ∀ n x, μ x ≤ n → Ok x → ∀ tm w, xFf mask (upd x l) tm → Rep B0 w0 (LL x) w → Code.rounds P c Q (n + 1) ⟨tm.toArray, dd x⟩ w := by
  intro n
  induction n with
  | zero => intro x hx hO tm w h1 h2; exact hs x tm w hO h1 h2 _ ⟨fun y tm' w' _ hy _ _ => by omega⟩
  | succ n ih =>
   intro x hx hO tm w h1 h2
   exact hs x tm w hO h1 h2 _ ⟨fun y tm' w' hO' hy h1' h2' => ih y (by omega) hO' tm' w' h1' h2'⟩
 exact wp_loop_rounds (μ x0 + 1) (key (μ x0) x0 (Nat.le_refl _) hO l w h0 hR)
noncomputable def slotsO {n i : Nat} (l : List Value) (x : Oth n i) : List Value := (l.set 28 (.int .i64 ((x.1 : Int) + 1))).set 5 (.int .i64 ((x.1 : Int) + 1))
theorem range_others {n i : Nat} {Q : Exit → Act → World → Prop} {l : List Value} {ac bc : Code} (Ds : List Nat) (Bn Bi : Nat) (LL : List (Oth n i) → List (Nat × Obj))
  (hg : (Act.mk l.toArray (Ds.map coll)).eval (.tmp 27) = .func (.func 176) #[] #[.pointer (some ⟨Bn, 0, none⟩), .pointer (some ⟨Bi, 0, none⟩)])
  (hn : n ≤ 1000000) (hi : i ≤ 1000000) (hBn : ∀ pre, (Bn, Obj.cells [Value.int .i64 (n : Int)].toArray 3) ∈ LL pre) (hBi : ∀ pre, (Bi, Obj.cells [Value.int .i64 ((i : Int) + 1)].toArray 3) ∈ LL pre)
  (hR : Rep B0 w0 (xDb Ds ++ LL []) w) (hL : ∀ pre p, p ∈ LL pre → p.2.isCells = true)
  (hvars : ∀ (k : Nat) (pre : List (Oth n i)) (x : Oth n i) (W : World) (K : Act → World → Prop), RK W B0 w0 (LL pre) W → (∀ W', RK W B0 w0 (LL pre) W' → K ⟨(slotsO l x).toArray, []⟩ W') →
   ac.wpIn (Fence.wide.inRound k) 3 Tryz.prog (Exit.then K (fun _ _ _ => False)) ⟨(l.set 28 (.int .i64 ((x.1 : Int) + 1))).toArray, []⟩ W)
  (hbody : ∀ (k : Nat) (pre : List (Oth n i)) (x : Oth n i) (W : World), RK W B0 w0 (LL pre) W →
   bc.wpIn (Fence.wide.inRound k) 3 Tryz.prog (roundPost W B0 w0 (LL (pre ++ [x])) [] True False) ⟨(slotsO l x).toArray, []⟩ W)
  (hdone : ∀ (D : Nat) (W : World), Rep B0 w0 (xDb (D :: Ds) ++ LL (othL n i n)) W → Q .normal ⟨l.toArray, (D :: Ds).map coll⟩ W) :
  (Code.rangeFunc (.tmp 27) #[28] ac bc).wp Tryz.prog Q ⟨l.toArray, Ds.map coll⟩ w := by
 refine (wpIn_wide (n := 5)).1 ?_
 have hR0 : Rep B0 w0 (LL []) w := hR.weaken (List.sublist_append_right _ _)
 have hDs : ∀ D, D ∈ Ds → w.heap[D]? = some (.deferred (some [])) ∧ B0 ≤ D ∧ D < w.heap.size := fun D hD => by
  have h1 := hR.own _ (List.mem_append_left _ (mem_marks hD))
  exact ⟨h1.2, h1.1, (Array.getElem?_eq_some_iff.1 h1.2).1⟩
 have hNd : Ds.Nodup := by
  have := hR.uniq
  rw [List.map_append] at this
  have h2 := (List.nodup_append.1 this).1
  rw [marks_fst] at h2
  exact h2
 have own : OwnFrom w.heap.size (fun s W => Rep B0 w0 (LL s) W ∧ ∀ D, D ∈ Ds → W.heap[D]? = some (.deferred (some []))) := fun s W W' row h hg hr =>
  ⟨xGr hR.le hL s W W' row h.1 hg hr, fun D hD => by
   have hlt : D < W.heap.size := (Array.getElem?_eq_some_iff.1 (h.2 D hD)).1
   rw [hg.block D hlt (fun e => by have := (hr D e.symm).1; have := (hDs D hD).2.2; omega)]
   exact h.2 D hD⟩
 have hb : ∀ x ∈ [Bn, Bi], x < w.heap.size := fun x hx => by
  simp only [List.mem_cons, List.not_mem_nil, or_false] at hx
  rcases hx with rfl | rfl
  ·exact hR0.lt (hBn [])
  ·exact hR0.lt (hBi [])
 have hkeep : ∀ (pre pre' : List (Oth n i)) (W W' : World), Rep B0 w0 (LL pre) W → Rep B0 w0 (LL pre') W' → xJl [Bn, Bi] W W' := fun pre pre' W W' hw hw' p hp => by
  refine World.cell?_of_block ?_
  simp only [List.mem_cons, List.not_mem_nil, or_false] at hp
  rcases hp with e | e <;> rw [e]
  ·exact (hw'.own _ (hBn pre')).2.trans (hw.own _ (hBn pre)).2.symm
  ·exact (hw'.own _ (hBi pre')).2.trans (hw.own _ (hBi pre)).2.symm
 refine xCq rfl (by decide) (gf := 176) (lb := #[.pointer (some ⟨Bn, 0, none⟩), .pointer (some ⟨Bi, 0, none⟩)]) hg trivial (fun args w => xAv Tryz.func176 (by kernel_rfl) (by kernel_rfl) args w)
  (others_stops Fence.wide 4 trivial rfl (by decide) Bn Bi n i hn hi w hb (hR0.cell (off := 0) (hBn []) rfl) (hR0.cell (off := 0) (hBi []) rfl)) xHe (keepS_b hb) (fun _ => rfl)
  (fun pre W => Rep B0 w0 (LL pre) W ∧ ∀ D, D ∈ Ds → W.heap[D]? = some (.deferred (some []))) (fun pre x b W => b = ⟨(slotsO l x).toArray, []⟩ ∧ Rep B0 w0 (LL pre) W ∧ ∀ D, D ∈ Ds → W.heap[D]? = some (.deferred (some []))) (fun c pre W => False)
  own (fun x b => ?own1) (fun c => fun _ _ _ _ h _ _ => h) ⟨hR0, fun D hD => (hDs D hD).1⟩ ?vars ?body ?done ?stop
 case own1 =>
  rintro pre W W' row ⟨hc, h⟩ hg hr
  exact ⟨hc, own pre W W' row h hg hr⟩
 case vars =>
  rintro k pre x W K ⟨hw, hd⟩ hl hK
  have hz : ((#[28] : Array Tmp).zip (#[Value.int .i64 ((x.1 : Int) + 1)])).foldl (fun t (x : Tmp × Value) => t.setIfInBounds x.1 x.2) l.toArray = (l.set 28 (Value.int .i64 ((x.1 : Int) + 1))).toArray := by simp
  rw [hz]
  refine hvars k pre x W K ⟨hw, KeepsOthers.refl W⟩ fun W' hw' => ?_
  exact hK _ W' hw'.kept (hkeep pre pre W W' hw hw'.rep) ⟨rfl, hw'.rep, fun D hD => hw'.kept.same _ _ (hd D hD) rfl⟩
 case body =>
  rintro k pre x b W ⟨rfl, hw, hd⟩
  refine wpIn_mono (hbody k pre x W ⟨hw, KeepsOthers.refl W⟩) ?_
  rintro e a' W' hp
  cases e with
  | normal => exact ⟨hp.1.kept, hkeep pre _ W W' hw hp.1.rep, hp.1.rep, fun D hD => hp.1.kept.same _ _ (hd D hD) rfl⟩
  | ret => exact hp.2.elim
  | exit id => exact hp.elim
  | goto t => exact hp.elim
  | panic ch => exact hp.elim
  | outgrown => exact hp.elim
 case done =>
  rintro D ys W hle rfl ⟨hw, hd⟩ hD
  refine hdone D W (rep_marks hw (hL _) ?_ ?_)
  ·intro D' hD'
   rcases List.mem_cons.1 hD' with rfl | hD'
   ·exact ⟨hD, by have := hR.le; omega⟩
   ·exact ⟨hd _ hD', (hDs _ hD').2.1⟩
  ·exact List.nodup_cons.2 ⟨fun hm => by have := (hDs D hm).2.2; omega, hNd⟩
 case stop =>
  rintro D c pre W hle _ h hD
  exact h.elim
end
end
section
section
variable {q n : Nat} [NeZero q]
noncomputable def wdS (q c i : Nat) : Nat → Nat
 | 0 => c
 | k + 1 => if k = i then wdS q c i k else mulN (wdS q c i k) (invM (sOf q ((i : Int) - (k : Int))) q) q
omit [NeZero q] in
theorem wdS_lt (h1 : 1 < q) {c i : Nat} (hc : c < q) : ∀ k, wdS q c i k < q
  | 0 => hc
  | k + 1 => by
    unfold wdS
    split
    · exact wdS_lt h1 hc k
    · exact mul_lt' h1 _ _
noncomputable def ptF (q j : Nat) : Nat := sOf q ((j : Int) + 1)
omit [NeZero q] in
theorem ptF_lt (h1 : 1 < q) (j : Nat) : ptF q j < q := sOf_lt h1 _
def difOK (q n : Nat) : Prop := ∀ i k, i < n → k < n → i ≠ k → Nat.gcd (sOf q ((i : Int) - (k : Int))) q = 1
omit [NeZero q] in
noncomputable def mono (q kk j : Nat) : Nat := if j < kk then 0 else sOf q 1
omit [NeZero q] in
theorem mono_lt (h1 : 1 < q) (kk j : Nat) : mono q kk j < q := by
 unfold mono
 split
 ·omega
 ·exact sOf_lt h1 1
end
end
end Go.Proofs.YtaaahfjpnggkbaaGreatDoor
