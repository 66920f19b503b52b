import Derived.WalkKit
import Derived.OwnWalkIn
import Derived.Lib.AppendZerosOnto
import Derived.Test.YtaaahfjpnggkbaaGreatDoorZA
import Derived.RangeFuncNested
import Derived.RangeFuncBound
import Derived.RangeFuncCalls
import Derived.RangeFuncLeaves
import Derived.RangeFuncBox
import Derived.RangeFuncFrom
import Derived.Shelf.Abstract
import Derived.Shelf.RegionOpen
import Derived.TacticsInMore
import Derived.LoopNIn
import Derived.LoopIn
import Derived.Deep.RegionWith
import Derived.Test.YtaaahfjpnggkbaaGreatDoorZWide
set_option linter.unusedSimpArgs false
set_option linter.unusedVariables false
set_option maxRecDepth 100000
set_option maxHeartbeats 20000000
namespace Go.Proofs.YtaaahfjpnggkbaaGreatDoor
open Go.RowKit
section
theorem Rep.grown {B0 : Nat} {w0 : World} {L : List (Nat × Obj)} {w w' : World} {row : Option Nat} (h : Rep B0 w0 L w) (hg : w.grownBy w' row) (hr : ∀ r, row = some r → B0 ≤ r ∧ ∀ p, p ∈ L → p.1 ≠ r) : Rep B0 w0 L w' :=
 ⟨h.below.grown hg h.le (fun k hk => (hr k hk).1), by have := hg.size; have := h.le; omega, fun p hp => ⟨(h.own p hp).1, by
  have hp1 := (h.own p hp).2
  have hlt : p.1 < w.heap.size := (Array.getElem?_eq_some_iff.1 hp1).1
  rw [hg.block p.1 hlt (fun e => (hr p.1 e.symm).2 p hp rfl)]
  exact hp1⟩, h.uniq⟩
theorem Rep.add {B0 : Nat} {w0 : World} {L : List (Nat × Obj)} {w : World} (h : Rep B0 w0 L w) {b : Nat} {o : Obj} (hb : B0 ≤ b) (ho : w.heap[b]? = some o) (hn : ∀ p, p ∈ L → p.1 ≠ b) : Rep B0 w0 ((b, o) :: L) w :=
 ⟨h.below, h.le, fun p hp => by
  rcases List.mem_cons.1 hp with rfl | hp
  ·exact ⟨hb, ho⟩
  ·exact h.own p hp, by
  rw [List.map_cons, List.nodup_cons]
  refine ⟨fun hm => ?_, h.uniq⟩
  obtain ⟨p, hp, e⟩ := List.mem_map.1 hm
  exact hn p hp e⟩
theorem info_u64 : (Tryz.prog.info? 22).map (fun i => (i.zero, i.size, i.bytes)) = some (some (.int .u64 0), 1, 8) := by kernel_rfl
theorem grow_nil (n : Nat) (h0 : 0 < n) (hn : n ≤ 1000000) (w : World) : Calls Tryz.prog 242 #[.slice none 0 0, .int .i64 (n : Int)] w fun e w' =>
  ∃ v, e = .returned v ∧ w'.ownsRow w.heap.size 22 1 v 0 [] ∧ w.grownBy w' none := by
 obtain ⟨i0, hi, hz0, hz1, hz2⟩ := info_parts info_u64
 have z25 : ∀ w, (Go.sizeOf 22).run Tryz.prog w = .ok i0.size w := fun w => by simp [Go.sizeOf, typeInfo, hi]
 have hrz : ∀ ty, (Builtin.append_ #[256, 3] ty #[.slice none 0 0, .int .i64 (n : Int)]).run Tryz.prog w =
   .ok (.slice (some ⟨w.heap.size, 0, none⟩) n (grownCap w n 0 22)) (w.drew.alloc (.cells (#[] ++ Builtin.zeroCells (Value.int .u64 0).cells n ++ Builtin.zeroCells (Value.int .u64 0).cells (grownCap w n 0 22 - n)) 22)) := fun ty => by
  have h := Lib.run_append_grow_zeros w 256 3 ty 22 i0 (.int .u64 0) .i64 .i64 Tryz.underlying256 Tryz.underlying3 hi hz0 none 0 0 [] (run_firstCells_none w.drew i0.size 0 0 0) n h0 (by omega) (by omega) (by omega) (by rw [hz2]; omega)
   (by rw [Nat.zero_add]; exact growslice_fits (by omega) (by rw [hz2]; omega))
  rw [Nat.zero_add] at h
  exact h
 have hGn : n ≤ grownCap w n 0 22 := grownCap_ge w _ _ _
 have hGm : grownCap w n 0 22 ≤ maxLen := grownCap_le_maxLen w n 0 22 (by unfold maxLen; omega)
 generalize grownCap w n 0 22 = G at *
 have hG63 : G ≤ 9223372036854775807 := by unfold maxLen at hGm; omega
 have own : (w.drew.alloc (.cells (#[] ++ Builtin.zeroCells (Value.int .u64 0).cells n ++ Builtin.zeroCells (Value.int .u64 0).cells (G - n)) 22)).ownsRow w.heap.size 22 1 (.slice (some ⟨w.heap.size, 0, none⟩) 0 G) 0 [] := by
  refine ⟨rfl, .inr ⟨w.heap.size, G, _, rfl, Nat.le_refl _, heap_alloc_new w.drew _, Nat.zero_le _, hGm, ?_, by simp⟩⟩
  simp only [Array.size_append, size_zeroCells]
  have : (Value.int .u64 0).cells.size = 1 := rfl
  rw [this]
  simp
  omega
 have gr : w.grownBy (w.drew.alloc (.cells (#[] ++ Builtin.zeroCells (Value.int .u64 0).cells n ++ Builtin.zeroCells (Value.int .u64 0).cells (G - n)) 22)) none :=
  ⟨rfl, rfl, rfl, by simp, fun k hk _ => heap_alloc_old w.drew _ hk⟩
 generalize w.drew.alloc (.cells (#[] ++ Builtin.zeroCells (Value.int .u64 0).cells n ++ Builtin.zeroCells (Value.int .u64 0).cells (G - n)) 22) = w1 at *
 have h1 : ¬ ((n : Int) < 0) := by omega
 have h2 : (n : Int) > 0 := by omega
 have h3 : (n : Int) ≤ 9223372036854775807 := by omega
 clear z25
 replace own := Held.mk own
 replace gr := Held.mk gr
 go_enter Tryz.func242, Tryz.ntmps242
 go_wp2_with (at_builtin; refine Lib.wpList_append_run _ rfl _ _ _ _ rfl _ _ rfl rfl _ _ (hrz _) ?_)
 all_goals (go_ret; exact ⟨_, rfl, own.out, gr.out⟩)
theorem cell_add {w : World} {b j : Nat} {u : Value} (h : w.cell? ⟨b, j, none⟩ = some u) : w.cell? ((⟨b, 0, none⟩ : Addr).add j) = some u := by
 have e : ((⟨b, 0, none⟩ : Addr).add j) = ⟨b, j, none⟩ := by
  simp [Addr.add]
  omega
 rw [e]; exact h
instance inConcat1 : xDt Tryz.prog 256 := .mk' (by kernel_rfl) (by kernel_rfl)
theorem concat_two {B0 : Nat} {w0 : World} {L : List (Nat × Obj)} {w : World} (hR : Rep B0 w0 L w) (bb b1 b2 : Nat) (xs ys : List Value) (tb t1 t2 : TypeId)
  (mb : (bb, Obj.cells (List.toArray [Value.slice (some ⟨b1, 0, none⟩) 4 4, Value.slice (some ⟨b2, 0, none⟩) 4 4]) tb) ∈ L) (m1 : (b1, Obj.cells xs.toArray t1) ∈ L) (m2 : (b2, Obj.cells ys.toArray t2) ∈ L)
  (hx : xs.length = 4) (hy : ys.length = 4) (ox : ∀ u ∈ xs, u.oneCell' = true) (oy : ∀ u ∈ ys, u.oneCell' = true) :
  Calls Tryz.prog 237 #[.slice (some ⟨bb, 0, none⟩) 2 2] w fun e w' =>
   ∃ g cap cur, e = .returned (.slice (some ⟨g, 0, none⟩) 8 cap) ∧ Rep B0 w0 ((g, .cells cur 22) :: L) w' ∧ cur.toList.take 8 = xs ++ ys := by
 obtain ⟨i0, hi, hz0, hz1, hz2⟩ := info_parts info_u64
 have hlt : ∀ p, p ∈ L → p.1 < w.heap.size := fun p hp => hR.lt hp
 have hn0 : B0 ≤ w.heap.size := hR.le
 have cg := fun w => grow_nil 8 (by decide) (by decide) w
 go_enter Tryz.func237, Tryz.ntmps237
 go_wp2_with (first | (refine' aAq hR ?_; clear hR; intro blk w hR) | (refine' aBq hR ?_; clear hR; intro blk w hR) | (refine' aCq hR ?_) | (refine' aDq hR ?_) | (refine' aEq hR ?_) | (refine' aFq hR ?_; clear hR; intro w hR) | (refine' aGq hR ?_; clear hR; intro w hR) | fail)
 refine wp_loop_rounds 3 ?_
 rw [rounds_succ]
 go_wp2_with (first | (refine' aAq hR ?_; clear hR; intro blk w hR) | (refine' aBq hR ?_; clear hR; intro blk w hR) | (refine' aCq hR ?_) | (refine' aDq hR ?_) | (refine' aEq hR ?_) | (refine' aFq hR ?_; clear hR; intro w hR) | (refine' aGq hR ?_; clear hR; intro w hR) | fail)
 rw [rounds_succ]
 go_wp2_with (first | (refine' aAq hR ?_; clear hR; intro blk w hR) | (refine' aBq hR ?_; clear hR; intro blk w hR) | (refine' aCq hR ?_) | (refine' aDq hR ?_) | (refine' aEq hR ?_) | (refine' aFq hR ?_; clear hR; intro w hR) | (refine' aGq hR ?_; clear hR; intro w hR) | fail)
 rw [rounds_succ]
 go_wp2_with (first | (refine' aAq hR ?_; clear hR; intro blk w hR) | (refine' aBq hR ?_; clear hR; intro blk w hR) | (refine' aCq hR ?_) | (refine' aDq hR ?_) | (refine' aEq hR ?_) | (refine' aFq hR ?_; clear hR; intro w hR) | (refine' aGq hR ?_; clear hR; intro w hR) | (go_at_call 242; refine (cg _).mono ?_; rintro e w1 ⟨v1, rfl, hO, hg⟩))
 replace hR := hR.grown hg (fun _ h => by cases h)
 have hsz := hg.size
 clear hg cg
 refine wp_loop_rounds 3 ?_
 rw [rounds_succ]
 go_wp2_with (first | (refine' aAq hR ?_; clear hR; intro blk w hR) | (refine' aBq hR ?_; clear hR; intro blk w hR) | (refine' aCq hR ?_) | (refine' aDq hR ?_) | (refine' aEq hR ?_) | (refine' aFq hR ?_; clear hR; intro w hR) | (refine' aGq hR ?_; clear hR; intro w hR) | (at_builtin; refine wpList_append_own _ rfl _ _ 256 rfl w.heap.size 22 i0 (.int .u64 0) 1 8 Tryz.underlying256 hi hz0 hz1 hz2 rfl (by decide) _ _ _ rfl hO ⟨b1, 0, none⟩ 4 4 xs rfl hx (fun j u hj => cell_add (hR.cell (off := j) m1 hj)) ox (by unfold maxLen; omega) (by omega) hsz ?_; intro v2 w2 hO2 hg2 _))
 replace hR := hR.grown hg2 (fun r hr => ⟨by have := (hO.lt r hr).1; omega, fun p hp e => by have := hlt p hp; have := (hO.lt r hr).1; omega⟩)
 replace hsz := Nat.le_trans hsz hg2.size
 clear hg2 hO
 have hO := hO2
 clear hO2
 rw [rounds_succ]
 go_wp2_with (first | (refine' aAq hR ?_; clear hR; intro blk w hR) | (refine' aBq hR ?_; clear hR; intro blk w hR) | (refine' aCq hR ?_) | (refine' aDq hR ?_) | (refine' aEq hR ?_) | (refine' aFq hR ?_; clear hR; intro w hR) | (refine' aGq hR ?_; clear hR; intro w hR) | (at_builtin; refine wpList_append_own _ rfl _ _ 256 rfl w.heap.size 22 i0 (.int .u64 0) 1 8 Tryz.underlying256 hi hz0 hz1 hz2 rfl (by decide) _ _ _ rfl hO ⟨b2, 0, none⟩ 4 4 ys rfl hy (fun j u hj => cell_add (hR.cell (off := j) m2 hj)) oy (by unfold maxLen; omega) (by omega) hsz ?_; intro v3 w3 hO3 hg3 _))
 replace hR := hR.grown hg3 (fun r hr => ⟨by have := (hO.lt r hr).1; omega, fun p hp e => by have := hlt p hp; have := (hO.lt r hr).1; omega⟩)
 clear hg3 hO
 rw [rounds_succ]
 go_wp2_with (first | (refine' aAq hR ?_; clear hR; intro blk w hR) | (refine' aBq hR ?_; clear hR; intro blk w hR) | (refine' aCq hR ?_) | (refine' aDq hR ?_) | (refine' aEq hR ?_) | (refine' aFq hR ?_; clear hR; intro w hR) | (refine' aGq hR ?_; clear hR; intro w hR) | fail)
 go_ret
 obtain ⟨hl, hc⟩ := hO3
 rcases hc with ⟨_, h⟩ | ⟨g, cap, cur, rfl, hb, hh, _, _, _, ht⟩
 ·exact absurd h (by decide)
 ·exact ⟨g, cap, cur, rfl, hR.add (by omega) hh (fun p hp e => by have := hlt p hp; omega), by simpa using ht⟩
end
section
attribute [local go_sem] Oper.semAt_some
abbrev Word := { n : Nat // n < 18446744073709551616 }
def dn (len : Nat) (zs : Nat → Word) (m : Nat) : List (Int × Word) := (List.range (len - m)).map fun k => (((len - 1 - k : Nat) : Int), zs (len - 1 - k))
theorem dn_top (len : Nat) (zs : Nat → Word) : dn len zs len = [] := by simp [dn]
theorem dn_succ (len : Nat) (zs : Nat → Word) {m : Nat} (h : m < len) : dn len zs m = dn len zs (m + 1) ++ [((m : Int), zs m)] := by
 unfold dn
 rw [show len - m = (len - (m + 1)) + 1 by omega, List.range_succ, List.map_append, List.map_cons, List.map_nil, show len - 1 - (len - (m + 1)) = m by omega]
theorem dn_length (len : Nat) (zs : Nat → Word) (m : Nat) : (dn len zs m).length = len - m := by simp [dn]
def keep2 (b1 b2 : Nat) (A B : World) : Prop := ∀ p : Addr, p.block = b1 ∨ p.block = b2 → B.cell? p = A.cell? p
theorem keep2_t {b1 b2 : Nat} {A B C : World} (h1 : keep2 b1 b2 A B) (h2 : keep2 b1 b2 B C) : keep2 b1 b2 A C := fun p hp => (h2 p hp).trans (h1 p hp)
theorem keep2_b {b1 b2 : Nat} {w : World} (h1 : b1 < w.heap.size) (h2 : b2 < w.heap.size) (W : World) (l : Nat) (o o' : Obj) (hl : w.heap.size ≤ l) (_ : W.heap[l]? = some o) (_ : o.isCells = false) (_ : o.isWalk = false) : keep2 b1 b2 W (W.putObj l o') := fun p hp =>
 World.cell?_of_block (World.putObj_heap_other (fun e => by rcases hp with h | h <;> omega))
theorem back1_in (F : Fence) (n : Nat) (h7 : F.fn 243) (hro : F.round = none) (hn : 1 ≤ n) (l Bs b len cap : Nat) (zs : Nat → Word) (hlen : len ≤ 1000000) (J Jx : List (Int × Word) → World → Prop)
  (hY : ∀ pre x W, J pre W → pre.length < len → YieldAt F (n - 1) Tryz.prog l #[.int .i64 x.1, .int .u64 (x.2.1 : Int)] W fun e W' =>
   (e = .returned (.bool true) ∧ J (pre ++ [x]) W' ∧ keep2 b Bs W W') ∨ (e = .returned (.bool false) ∧ Jx (pre ++ [x]) W'))
  (W : World) (hBs : W.cell? ⟨Bs, 0, none⟩ = some (.slice (some ⟨b, 0, none⟩) len cap)) (hc : ∀ j, j < len → W.cell? ⟨b, j, none⟩ = some (.int .u64 ((zs j).1 : Int))) (h0 : J [] W) :
  CallsIn F n Tryz.prog 243 #[.func (.yield l) #[] #[], .pointer (some ⟨Bs, 0, none⟩)] W fun e W' => (∃ v, e = .returned v) ∧
   ((∃ ys, ys = dn len zs 0 ∧ J ys W') ∨ (∃ pre, True ∧ Jx pre W')) := by
 refine callsIn_of_wp Tryz.func243 rfl h7 ?_ hro
 simp only [Tryz.ntmps243, List.size_toArray, List.length_cons, List.length_nil, Nat.reduceAdd, Nat.reduceSub, Array.replicate_succ, Array.replicate_zero, List.push_toArray, List.append_toArray, List.nil_append, List.cons_append]
 gi_wp2
 gi_loopw [3] (fun i wr => ∃ m : Nat, m ≤ len ∧ i = .int .i64 ((m : Int) - 1) ∧ J (dn len zs m) wr ∧ keep2 b Bs W wr)
  (fun i _ => (intOf i + 1).toNat)
 case atStart => exact ⟨len, Nat.le_refl _, by simp, by rw [dn_top]; exact h0, fun _ _ => rfl⟩
 case round =>
  obtain ⟨m, hm, rfl, hJs, hnx⟩ := hrel
  have hbox : wr.cell? ⟨Bs, 0, none⟩ = some (.slice (some ⟨b, 0, none⟩) len cap) := (hnx ⟨Bs, 0, none⟩ (.inr rfl)).trans hBs
  cases m with
  | zero =>
   gi_wp2
   go_end0
   exact ⟨⟨_, rfl⟩, .inl ⟨_, rfl, hJs⟩⟩
  | succ m =>
   have hcx : wr.cell? ⟨b, m, none⟩ = some (.int .u64 ((zs m).1 : Int)) := (hnx ⟨b, m, none⟩ (.inl rfl)).trans (hc m (by omega))
   obtain ⟨fn, tmps, assign, body, hy, hR⟩ := hY _ ((m : Int), zs m) wr hJs (by rw [dn_length]; omega)
   dsimp only at hy
   rw [show ((m + 1 : Nat) : Int) - 1 = (m : Int) by omega]
   have hm1 : (m : Int) < (len : Int) := by omega
   have hm2 : 0 ≤ (m : Int) := by omega
   gi_wp2
   refine hR.mono ?_
   rintro e W3 (⟨rfl, hJ3, hk3⟩ | ⟨rfl, hJx3⟩)
   ·gi_wp2
    go_roundw
    case rel => exact ⟨m, by omega, rfl, by rw [dn_succ len zs (by omega)]; exact hJ3, keep2_t hnx hk3⟩
    case measure => simp [intOf]
   ·gi_wp2
    refine bodyPost_ret (results_none rfl _ _ _) rfl ?_
    exact ⟨⟨_, rfl⟩, .inr ⟨_, trivial, hJx3⟩⟩
theorem back_stops (F : Fence) (n : Nat) (h7 : F.fn 243) (hro : F.round = none) (hn : 1 ≤ n) (Bs b len cap : Nat) (zs : Nat → Word) (hlen : len ≤ 1000000) (w : World) (hb : b < w.heap.size) (hBn : Bs < w.heap.size)
  (hBs : w.cell? ⟨Bs, 0, none⟩ = some (.slice (some ⟨b, 0, none⟩) len cap)) (hc : ∀ j, j < len → w.cell? ⟨b, j, none⟩ = some (.int .u64 ((zs j).1 : Int))) :
  SeqStopsK F n Tryz.prog 243 #[.pointer (some ⟨Bs, 0, none⟩)] (fun x : Int × Word => #[Value.int .i64 x.1, Value.int .u64 (x.2.1 : Int)]) (keep2 b Bs) (fun ys => ys = dn len zs 0) (fun _ => True) len w := fun l J Jx W hW _ _ hY h0 =>
 back1_in F n h7 hro hn l Bs b len cap zs hlen J Jx hY W ((hW.cell (p := ⟨Bs, 0, none⟩) (by exact hBn)).trans hBs) (fun j hj => (hW.cell (p := ⟨b, j, none⟩) (by exact hb)).trans (hc j hj)) h0
theorem backward_any (a : Option Addr) (len cap : Nat) (w : World) :
  Calls Tryz.prog 238 #[.slice a len cap] w fun e w' => e = .returned (.func (.func 243) #[] #[.pointer (some ⟨w.heap.size, 0, none⟩)]) ∧ w' = w.alloc (.cells #[.slice a len cap] 256) := by
 go_enter Tryz.func238, Tryz.ntmps238
 go_wp2
 go_ret
 exact ⟨rfl, rfl⟩
end
section
attribute [local go_sem] Oper.semAt_some
theorem region_slice {P : Program} {c : Code} {Q : Exit → Act → World → Prop} {l : List Value} {d : List Deferred} {w w0 : World} {B0 : Nat} {L : List (Nat × Obj)} (hR : Rep B0 w0 L w) (mask : List Bool) (t : TypeId) (ys : List Value)
  (h1 : ∀ Q' : Act → World → Prop, Held (∀ g cap cur tm w', xFf mask (l.set 8 (.slice (some ⟨g, 0, none⟩) 8 cap)) tm → Rep B0 w0 ((g, .cells cur t) :: L) w' → cur.toList.take 8 = ys → Q' ⟨tm.toArray, d⟩ w') → c.wp P (Exit.then Q' fun _ _ _ => False) ⟨l.toArray, d⟩ w)
  (h2 : ∀ g cap cur tm w', xFf mask (l.set 8 (.slice (some ⟨g, 0, none⟩) 8 cap)) tm → Rep B0 w0 ((g, .cells cur t) :: L) w' → cur.toList.take 8 = ys → Q .normal ⟨tm.toArray, d⟩ w') : c.wp P Q ⟨l.toArray, d⟩ w := by
 refine Code.wp_mono (fun e a w' h => ?_) (h1 (fun a w' => Q .normal a w') ⟨h2⟩)
 cases e <;> first | exact h | exact h.elim
theorem KeepsOthers.below {W W' : World} (h : Below W.heap.size W W') : KeepsOthers W W' :=
 ⟨h.size, fun k o hk _ => by rw [h.block k (Array.getElem?_eq_some_iff.1 hk).1]; exact hk⟩
noncomputable def rstep : Nat → Nat → Nat → Nat := opq fun m r x => (r * 18446744073709551616 + x) % m
theorem xHm (m r x : Nat) : rstep m r x = (r * 18446744073709551616 + x) % m := by unfold rstep; rw [xBu]
noncomputable def rr (m : Nat) (pre : List (Int × Word)) : Nat := pre.foldl (fun r x => rstep m r x.2.1) 0
theorem rr_snoc (m : Nat) (pre : List (Int × Word)) (x : Int × Word) : rr m (pre ++ [x]) = rstep m (rr m pre) x.2.1 := by
 unfold rr
 rw [List.foldl_append, List.foldl_cons, List.foldl_nil]
theorem rr_lt {m : Nat} (hm : 0 < m) : ∀ pre : List (Int × Word), rr m pre < m := fun pre => by
 rcases List.eq_nil_or_concat pre with rfl | ⟨p, x, rfl⟩
 ·exact hm
 ·rw [List.concat_eq_append, rr_snoc, xHm]; exact Nat.mod_lt _ hm
theorem Rep.ownFrom {B0 : Nat} {w0 : World} {L : List (Int × Word) → List (Nat × Obj)} {C : Nat} (hC : B0 ≤ C) (hL : ∀ pre p, p ∈ L pre → p.2.isCells = true) : OwnFrom C (fun pre W => Rep B0 w0 (L pre) W) := fun pre W W' row h hg hr =>
 h.grown hg fun r e => ⟨by have := (hr r e).1; omega, fun p hp ep => by
  obtain ⟨_, o, ho, hf⟩ := hr r e
  have h1 := (h.own p hp).2
  have h2 := hL pre p hp
  rw [ep, ho] at h1
  cases h1
  rw [hf] at h2
  cases h2⟩
theorem Rep.putHead {B0 : Nat} {w0 : World} {p : Nat × Obj} {L : List (Nat × Obj)} {w : World} (h : Rep B0 w0 (p :: L) w) (o : Obj) : Rep B0 w0 L (w.putObj p.1 o) :=
 h.tail.grown (grownBy_putObj' w p.1 o) fun r e => by
  cases e
  exact ⟨(h.own p (.head _)).1, fun q hq e => (List.nodup_cons.1 h.uniq).1 (List.mem_map.2 ⟨q, hq, e⟩)⟩
theorem xEg (m v x : Nat) : rstep m (v % m) x = (v * 18446744073709551616 + x) % m := by
 rw [xHm, Nat.add_mod, Nat.mul_mod, Nat.mod_mod, ← Nat.mul_mod, ← Nat.add_mod]
theorem horner8 (W l0 l1 l2 l3 h0 h1 h2 h3 : Nat) : (((((((0 * W + h3) * W + h2) * W + h1) * W + h0) * W + l3) * W + l2) * W + l1) * W + l0 =
  (h0 + W * (h1 + W * (h2 + W * h3))) * (W * W * W * W) + (l0 + W * (l1 + W * (l2 + W * l3))) := by grind
def wz (low high j : Nat) : Word := if j < 4 then ⟨w64 low j, xCu _ _⟩ else ⟨w64 high (j - 4), xCu _ _⟩
theorem words_ex (low high m : Nat) (hl : low < B) (hh : high < B) (h0 : m ≠ 0) (cur : Array Value) (hcur : cur.toList.take 8 = nl low ++ nl high) :
  ∃ zs : Nat → Word, (∀ j, j < 8 → cur[j]? = some (.int .u64 ((zs j).1 : Int))) ∧ rr m (dn 8 zs 0) = widN low high m := by
 refine ⟨wz low high, fun j hj => ?_, ?_⟩
 ·have e : cur[j]? = (nl low ++ nl high)[j]? := by
   rw [← hcur, List.getElem?_take, if_pos hj, Array.getElem?_toList]
  rw [e]
  unfold nl
  simp only [xFa]
  have : j = 0 ∨ j = 1 ∨ j = 2 ∨ j = 3 ∨ j = 4 ∨ j = 5 ∨ j = 6 ∨ j = 7 := by omega
  rcases this with rfl | rfl | rfl | rfl | rfl | rfl | rfl | rfl <;> rfl
 ·have ed : dn 8 (wz low high) 0 = [(7, wz low high 7), (6, wz low high 6), (5, wz low high 5), (4, wz low high 4), (3, wz low high 3), (2, wz low high 2), (1, wz low high 1), (0, wz low high 0)] := rfl
  rw [ed]
  unfold rr
  simp only [List.foldl_cons, List.foldl_nil]
  have z : ∀ j, j < 4 → (wz low high j).1 = w64 low j := fun j hj => by unfold wz; rw [if_pos hj]
  have z' : ∀ j, j < 4 → (wz low high (j + 4)).1 = w64 high j := fun j hj => by unfold wz; rw [if_neg (by omega)]; rfl
  rw [z 0 (by decide), z 1 (by decide), z 2 (by decide), z 3 (by decide), z' 0 (by decide), z' 1 (by decide), z' 2 (by decide), z' 3 (by decide)]
  rw [xHm m 0, xEg, xEg, xEg, xEg, xEg, xEg, xEg, horner8, ← B_eq]
  have eh := xEq high
  have el := xEq low
  rw [Nat.mod_eq_of_lt hh] at eh
  rw [Nat.mod_eq_of_lt hl] at el
  unfold ofW at eh el
  rw [eh, el, xEw, if_neg h0]
theorem range_words {Q : Exit → Act → World → Prop} {B0 : Nat} {w0 : World} {l : List Value} {w : World} {ac bc : Code} (zs : Nat → Word) (Bs b cap : Nat) (L : List (Int × Word) → List (Nat × Obj))
  (hg : (Act.mk l.toArray []).eval (.tmp 27) = .func (.func 243) #[] #[.pointer (some ⟨Bs, 0, none⟩)])
  (hR : Rep B0 w0 (L []) w) (hL : ∀ pre p, p ∈ L pre → p.2.isCells = true) (mB : (Bs, Obj.cells (List.toArray [Value.slice (some ⟨b, 0, none⟩) 8 cap]) 256) ∈ L []) (mb : ∃ cur t, (b, Obj.cells cur t) ∈ L [] ∧ ∀ j, j < 8 → cur[j]? = some (.int .u64 ((zs j).1 : Int)))
  (hassign : ∀ (k : Nat) (x : Int × Word) (W : World) (K : Act → World → Prop), K ⟨(((l.set 28 (.int .i64 x.1)).set 29 (.int .u64 (x.2.1 : Int))).set 10 (.int .u64 (x.2.1 : Int))).toArray, []⟩ W →
   ac.wpIn (Fence.wide.inRound k) 3 Tryz.prog (Exit.then K (fun _ _ _ => False)) { tmps := ((#[28, 29] : Array Tmp).zip (#[Value.int .i64 x.1, Value.int .u64 (x.2.1 : Int)])).foldl (fun t (p, v) => t.setIfInBounds p v) l.toArray, defers := [] } W)
  (hbody : ∀ (k : Nat) (pre : List (Int × Word)) (x : Int × Word) (W : World), Rep B0 w0 (L pre) W → pre.length < 8 →
   bc.wpIn (Fence.wide.inRound k) 3 Tryz.prog (ownPostK (keep2 b Bs) (fun pre W => Rep B0 w0 (L pre) W) (fun _ _ _ => False) (pre ++ [x]) W) ⟨(((l.set 28 (.int .i64 x.1)).set 29 (.int .u64 (x.2.1 : Int))).set 10 (.int .u64 (x.2.1 : Int))).toArray, []⟩ W)
  (hdone : ∀ (D : Nat) (W : World), Rep B0 w0 ((D, .deferred (some [])) :: L (dn 8 zs 0)) W → Q .normal ⟨l.toArray, [{ target := .collected D, args := #[] }]⟩ W) :
  (Code.rangeFunc (.tmp 27) #[28, 29] ac bc).wp Tryz.prog Q ⟨l.toArray, []⟩ w := by
 refine (wpIn_wide (n := 5)).1 ?_
 have lB := hR.lt mB
 obtain ⟨cur, t, mb, hcur⟩ := mb
 have lb := hR.lt mb
 refine wpIn_rangeFunc_ownF rfl (by decide) (gf := 243) (lb := #[.pointer (some ⟨Bs, 0, none⟩)]) hg trivial (fun args w => xAv Tryz.func243 (by kernel_rfl) (by kernel_rfl) args w)
  (back_stops Fence.wide 4 trivial rfl (by decide) Bs b 8 cap zs (by decide) w lb lB (hR.cell (off := 0) mB rfl) (fun j hj => hR.cell (l := cur.toList) (off := j) (by simpa using mb) (by simpa using hcur j hj)))
  keep2_t (keep2_b lb lB) (Below.refl _ _) (fun _ => rfl) (fun pre W => Rep B0 w0 (L pre) W) (fun _ _ _ => False) (Rep.ownFrom hR.le hL) (fun _ _ _ _ _ h _ _ => h) hR _ hassign hbody ?done ?stop
 case done =>
  rintro D ys W hD rfl hW hK
  exact hdone D W (hW.add (by have := hR.le; omega) hK (fun p hp e => by
   have h1 := (hW.own p hp).2
   have h2 := hL _ p hp
   rw [e, hK] at h1
   rw [← Option.some.inj h1] at h2
   cases h2))
 case stop =>
  rintro D c pre W _ _ h
  exact h.elim
theorem wide_short (low high m : Nat) (hl : low < B) (hh : high < B) (h0 : m ≠ 0) (hs : m < 18446744073709551616) (w : World) : Calls Tryz.prog 227 #[num low, num high, num m] w fun e w' =>
  e = .returned (.tuple #[num (widN low high m), .int .i64 0]) ∧ Below w.heap.size w w' := by
 have hm : m < B := lt_B hs
 have z := xDk hm xEs h0
 have hR := Rep.init w
 have ox : ∀ a : Nat, ∀ u ∈ nl a, u.oneCell' = true := fun a u hu => by
  unfold nl at hu
  simp only [List.mem_cons, List.not_mem_nil, or_false] at hu
  rcases hu with rfl | rfl | rfl | rfl <;> rfl
 refine (callsIn_wide (n := 5)).1 ?_
 refine callsIn_of_wp_marks Tryz.func227 rfl trivial ?_ rfl
 simp only [Tryz.ntmps227, List.size_toArray, List.length_cons, List.length_nil, Nat.reduceAdd, Nat.reduceSub, Array.replicate_succ, Array.replicate_zero, List.push_toArray, List.append_toArray, List.nil_append, List.cons_append]
 refine wpIn_wide.2 ?_
 go_wp2_with (first | (refine' aAq hR ?_; clear hR; intro blk w hR) | (refine' aBq hR ?_; clear hR; intro blk w hR) | (refine' aCq hR ?_) | (refine' aDq hR ?_) | (refine' aEq hR ?_) | (refine' aFq hR ?_; clear hR; intro w hR) | (refine' aGq hR ?_; clear hR; intro w hR) | (go_at_call 228; refine (xHn m hm _).mono ?_; rintro e w ⟨rfl, hb⟩; replace hR := hR.call hb; clear hb))
 refine' region_slice hR (false :: false :: false :: false :: false :: false :: false :: false :: false :: false :: false :: false :: false :: false :: false :: false :: false :: false :: false :: false :: false :: false :: true :: true :: true :: true :: false :: false :: false :: false :: false :: false :: false :: false :: false :: false :: false :: false :: false :: false :: false :: false :: false :: false :: false :: false :: false :: false :: false :: false :: false :: false :: false :: false :: false :: false :: false :: false :: false :: false :: false :: false :: false :: []) 22 (nl low ++ nl high) ?h1 ?h2
 case h1 =>
  intro Q' hQ'
  rename_i K0 k0
  clear k0
  go_region_with (go_at_call 237; refine (concat_two (hR.alloc _).drew _ _ _ _ _ _ _ _ (List.Mem.head _) (mT _ (mT _ (mT _ (mT _ (List.Mem.head _))))) (mT _ (mT _ (mT _ (List.Mem.head _)))) rfl rfl (ox _) (ox _)).mono ?_; rintro e w1 ⟨g, cap, cur, rfl, hR1, hcur⟩)
  all_goals exact hQ'.out g cap cur _ _ (xAn rfl rfl rfl) hR1.second hcur
 case h2 =>
  clear hR
  rename_i b3 _ b4 _ b5 _ _ K1 k1 K0 k0
  intro g cap cur tm w ht hR hcur
  repeat (first | (obtain ⟨x, tm', e, ht'⟩ := xAg ht; clear ht; subst e; have ht := ht'; clear ht') | (obtain ⟨tm', e, ht'⟩ := xAd ht; clear ht; subst e; have ht := ht'; clear ht'))
  obtain rfl := xAl ht
  clear ht
  go_wp2_with (first | (refine' aAq hR ?_; clear hR; intro blk w hR) | (refine' aBq hR ?_; clear hR; intro blk w hR) | (refine' aCq hR ?_) | (refine' aDq hR ?_) | (refine' aEq hR ?_) | (refine' aFq hR ?_; clear hR; intro w hR) | (refine' aGq hR ?_; clear hR; intro w hR) | (go_at_call 238; refine (backward_any _ _ _ _).mono ?_; rintro e w1 ⟨rfl, rfl⟩; have hBox := hR.alloc (.cells (List.toArray [Value.slice (some ⟨g, 0, none⟩) 8 cap]) 256); clear hR))
  rename_i K2 k2
  obtain ⟨zs, hzs, hrr⟩ := words_ex low high m hl hh h0 cur hcur
  refine range_words zs w.heap.size g cap (fun pre => [(w.heap.size, Obj.cells (List.toArray [Value.slice (some ⟨g, 0, none⟩) 8 cap]) 256), (g, Obj.cells cur 22), (blk, Obj.cells (List.toArray [Value.int .u64 (rr m pre : Int), .int .u64 0, .int .u64 0, .int .u64 0]) 24), (b5, Obj.cells (nl m).toArray 24), (b4, Obj.cells (nl high).toArray 24), (b3, Obj.cells (nl low).toArray 24)])
   rfl hBox ?hL (List.Mem.head _) ⟨cur, _, mT _ (List.Mem.head _), hzs⟩ ?hassign ?hbody ?hdone
  case hL =>
   intro pre p hp
   simp only [List.mem_cons, List.not_mem_nil, or_false] at hp
   rcases hp with rfl | rfl | rfl | rfl | rfl | rfl <;> rfl
  case hassign =>
   clear k1 k2
   intro k x W K hK
   simp only [List.set_cons_succ, List.set_cons_zero] at hK
   gi_wp2
   exact hK
  case hbody =>
   clear k1 k2 hBox
   intro k pre x W hR _
   simp only [List.set_cons_succ, List.set_cons_zero]
   have hrl := rr_lt (by omega : 0 < m) pre
   have hd := fun w => xFu (rr m pre) x.2.1 m hrl hs x.2.2 w
   rw [← xHm, ← rr_snoc] at hd
   have hsn : rr m (pre ++ [x]) < m := rr_lt (by omega) _
   have em : wd m 0 = (m : Int) := by
    rw [xFa]; unfold w64; omega
   have c1 := hR.cell (off := 0) (mT _ (mT _ (List.Mem.head _))) rfl
   have c2 := hR.cell (off := 0) (mT _ (mT _ (mT _ (List.Mem.head _)))) rfl
   rw [em] at c2
   have hn1 : 1 ≤ 5 - 1 - 1 := by decide
   generalize hr' : rr m (pre ++ [x]) = r' at *
   generalize rr m pre = r at *
   gi_wp2_with (refine ⟨trivial, ?_⟩; gi_at_call 229; refine (CallsIn.inRound k (callsIn_wide.2 (hd _))).mono ?_; rintro e W2 ⟨rfl, hb⟩; have hR2 := hR.call hb; have c3 := hR2.cell (off := 0) (mT _ (mT _ (List.Mem.head _))) rfl; have c4 := hR2.thaw (mT _ (mT _ (List.Mem.head _))) ⟨blk, 0, none⟩ rfl)
   have hF := (hR2.storeCells (off := 0) (vs := [Value.int .u64 (r' : Int)]) (l' := [Value.int .u64 (r' : Int), .int .u64 0, .int .u64 0, .int .u64 0]) (xBq.tail (xBq.tail xBq.head)) (by simp) rfl).1
   refine ⟨(KeepsOthers.below hb).trans (KeepsOthers.setCell _ _ _), fun p hp => World.cell?_of_block ?_, ?_⟩
   ·rcases hp with h | h
    ·rw [h]
     exact (hF.own _ (mT _ (List.Mem.head _))).2.trans (hR.own _ (mT _ (List.Mem.head _))).2.symm
    ·rw [h]
     exact (hF.own _ (List.Mem.head _)).2.trans (hR.own _ (List.Mem.head _)).2.symm
   ·show Rep _ _ [_, _, (blk, Obj.cells (List.toArray [Value.int .u64 (rr m (pre ++ [x]) : Int), _, _, _]) _), _, _, _] _
    rw [hr']
    exact hF
  case hdone =>
   clear hBox
   intro D W hR
   rw [hrr] at hR
   go_wp2_with (first | (refine' aAq hR ?_; clear hR; intro blk w hR) | (refine' aBq hR ?_; clear hR; intro blk w hR) | (refine' aCq hR ?_) | (refine' aDq hR ?_) | (refine' aEq hR ?_) | (refine' aFq hR ?_; clear hR; intro w hR) | (refine' aGq hR ?_; clear hR; intro w hR) | fail)
   refine ⟨by simp, .inl ⟨_, _, rfl, run_takeDeferred (hR.own _ (List.Mem.head _)).2, ?_⟩⟩
   have hR3 := hR.putHead (.deferred none)
   refine' ⟨_, xAu Tryz.results227 rfl (hR3.loadAll (P := Tryz.prog) (ty := 24) (mT _ (mT _ (List.Mem.head _))) rfl), ?_, hR3.below⟩
   have hw : widN low high m < 18446744073709551616 := by
    rw [xEw, if_neg h0]
    exact Nat.lt_trans (Nat.mod_lt _ (by omega)) hs
   show _ = Ending.returned (.tuple #[.agg (nl (widN low high m)).toArray, _])
   rw [nl_small _ hw]
   rfl
theorem wide_none (low high : Nat) (w : World) : Calls Tryz.prog 227 #[num low, num high, num 0] w fun e w' =>
  e = .returned (.tuple #[num 0, .int .i64 1]) ∧ Below w.heap.size w w' := by
 have z := xDd 0
 have hR := Rep.init w
 go_enter Tryz.func227, Tryz.ntmps227
 go_wp2_with (first | (refine' aAq hR ?_; clear hR; intro blk w hR) | (refine' aBq hR ?_; clear hR; intro blk w hR) | (refine' aCq hR ?_) | (refine' aDq hR ?_) | (refine' aEq hR ?_) | (refine' aFq hR ?_; clear hR; intro w hR) | (refine' aGq hR ?_; clear hR; intro w hR) | fail)
 (refine' bodyPost_ret (xAu Tryz.results227 rfl (hR.loadAll (P := Tryz.prog) (ty := 24) ?hm ?hn)) rfl ⟨?_, hR.below⟩; (case hm => first | with_reducible assumption | repeat (first | exact .head _ | apply mT)); (case hn => first | rfl | simp))
 rw [xBn]
 rfl
theorem wide_any (low high m : Nat) (hl : low < B) (hh : high < B) (hm : m < B) (w : World) : Calls Tryz.prog 227 #[num low, num high, num m] w fun e w' =>
  e = .returned (.tuple #[num (widN low high m), .int .i64 (if m = 0 then 1 else 0)]) ∧ Below w.heap.size w w' := by
 by_cases h : m = 0
 ·subst h
  rw [if_pos rfl, xEw, if_pos rfl]
  exact wide_none low high w
 ·rw [if_neg h]
  by_cases hs : m < 18446744073709551616
  ·exact wide_short low high m hl hh h hs w
  ·exact wide_long low high m hl hh hm hs w
end
section
noncomputable def mhi : Nat → Nat → Nat := opq fun a b => a * b / 18446744073709551616
noncomputable def mlo : Nat → Nat → Nat := opq fun a b => a * b % 18446744073709551616
theorem mhi_def (a b : Nat) : mhi a b = a * b / 18446744073709551616 := by unfold mhi; rw [xBu]
theorem mlo_def (a b : Nat) : mlo a b = a * b % 18446744073709551616 := by unfold mlo; rw [xBu]
theorem mlo_lt (a b : Nat) : mlo a b < 18446744073709551616 := by rw [mlo_def]; exact Nat.mod_lt _ (by decide)
theorem mhi_lt {a b : Nat} (ha : a < 18446744073709551616) (hb : b < 18446744073709551616) : mhi a b ≤ 18446744073709551614 := by
 rw [mhi_def]
 have : a * b ≤ 18446744073709551615 * 18446744073709551615 := Nat.mul_le_mul (by omega) (by omega)
 omega
theorem mul64_any (a b : Nat) (ha : a < 18446744073709551616) (hb : b < 18446744073709551616) (w : World) : Calls Tryz.prog 232 #[.int .u64 (a : Int), .int .u64 (b : Int)] w fun e w' =>
  e = .returned (.tuple #[.int .u64 (mhi a b : Int), .int .u64 (mlo a b : Int)]) ∧ Below w.heap.size w w' := by rw [mhi_def, mlo_def]; exact Calls.below (Tryz.bits_Mul64 a b ha hb w)
theorem times_low (p s m l h : Int) (s0 : 0 ≤ s ∧ s < 18446744073709551616) (m0 : 0 ≤ m ∧ m < 18446744073709551616) (hp : p = l + 18446744073709551616 * h) (l0 : 0 ≤ l ∧ l < 18446744073709551616) :
  sm (sm l s 0) m 0 = (p + s + m) % 18446744073709551616 := by
 simp only [sm_def]; omega
theorem times_high (p s m l h : Int) (s0 : 0 ≤ s ∧ s < 18446744073709551616) (m0 : 0 ≤ m ∧ m < 18446744073709551616) (hp : p = l + 18446744073709551616 * h) (l0 : 0 ≤ l ∧ l < 18446744073709551616) (h0 : 0 ≤ h ∧ h ≤ 18446744073709551614) (hc : p ≤ 18446744073709551615 * 18446744073709551615) :
  h + ca l s 0 + ca (sm l s 0) m 0 = (p + s + m) / 18446744073709551616 := by
 simp only [sm_def, ca_def]; omega
theorem times_q (a b : Nat) (s m : Int) (ha : a < 18446744073709551616) (hb : b < 18446744073709551616) (hs0 : 0 ≤ s) (hs : s < 18446744073709551616) (hm0 : 0 ≤ m) (hm : m < 18446744073709551616) :
  (mhi a b : Int) + ca (mlo a b : Int) s 0 < 18446744073709551616 ∧ (mhi a b : Int) + ca (mlo a b : Int) s 0 + ca (sm (mlo a b : Int) s 0) m 0 < 18446744073709551616 ∧
  0 ≤ sm (sm (mlo a b : Int) s 0) m 0 ∧ sm (sm (mlo a b : Int) s 0) m 0 < 18446744073709551616 ∧
  sm (sm (mlo a b : Int) s 0) m 0 + 18446744073709551616 * ((mhi a b : Int) + ca (mlo a b : Int) s 0 + ca (sm (mlo a b : Int) s 0) m 0) = (a : Int) * b + s + m := by
 have l0 := mlo_lt a b
 have h0 := mhi_lt ha hb
 have p1 : 0 ≤ (mlo a b : Int) := by omega
 have j1 := ca_hi (mlo a b : Int) s 0 (by omega) (by omega) (by decide)
 have hp : ((a * b : Nat) : Int) = (mlo a b : Int) + 18446744073709551616 * (mhi a b : Int) := by rw [mlo_def, mhi_def]; omega
 have hc : a * b ≤ 18446744073709551615 * 18446744073709551615 := Nat.mul_le_mul (by omega) (by omega)
 have e1 := times_low _ s m _ _ (by omega) (by omega) hp (by omega)
 have e2 := times_high _ s m _ _ (by omega) (by omega) hp (by omega) (by omega) (by omega)
 rw [← Int.natCast_mul]
 rw [e1, e2]
 refine ⟨by omega, by omega, by omega, by omega, by omega⟩
theorem times_any (a b s m : Int) (ha0 : 0 ≤ a) (ha : a < 18446744073709551616) (hb0 : 0 ≤ b) (hb : b < 18446744073709551616) (hs0 : 0 ≤ s) (hs : s < 18446744073709551616) (hm0 : 0 ≤ m) (hm : m < 18446744073709551616) (w : World) :
  Calls Tryz.prog 236 #[.int .u64 a, .int .u64 b, .int .u64 s, .int .u64 m] w fun e w' =>
  ∃ l h : Int, 0 ≤ l ∧ l < 18446744073709551616 ∧ 0 ≤ h ∧ h < 18446744073709551616 ∧ l + 18446744073709551616 * h = a * b + s + m ∧ e = .returned (.tuple #[.int .u64 l, .int .u64 h]) ∧ Below w.heap.size w w' := by
 obtain ⟨a, rfl⟩ := Int.eq_ofNat_of_zero_le ha0
 obtain ⟨b, rfl⟩ := Int.eq_ofNat_of_zero_le hb0
 have hR := Rep.init w
 have l0 := mlo_lt a b
 have h0 := mhi_lt (a := a) (b := b) (by omega) (by omega)
 have p1 : 0 ≤ (mlo a b : Int) := by omega
 have p2 : (mlo a b : Int) < 18446744073709551616 := by omega
 have k1 := ca_lo (mlo a b : Int) s 0 p1 hs0 (by decide)
 have j1 := ca_hi (mlo a b : Int) s 0 p2 (by omega) (by decide)
 have q1 : 0 ≤ sm (mlo a b : Int) s 0 := by rw [sm_def]; omega
 have q2 : sm (mlo a b : Int) s 0 < 18446744073709551616 := by rw [sm_def]; omega
 have k2 := ca_lo (sm (mlo a b : Int) s 0) m 0 q1 hm0 (by decide)
 have j2 := ca_hi (sm (mlo a b : Int) s 0) m 0 q2 (by omega) (by decide)
 obtain ⟨t1, t2, t3, t4, -⟩ := times_q a b s m (by omega) (by omega) hs0 hs hm0 hm
 clear l0 h0
 go_enter Tryz.func236, Tryz.ntmps236
 go_wp2_with (first | (refine' aAq hR ?_; clear hR; intro blk w hR) | (refine' aBq hR ?_; clear hR; intro blk w hR) | (refine' aCq hR ?_) | (refine' aDq hR ?_) | (refine' aEq hR ?_) | (refine' aFq hR ?_; clear hR; intro w hR) | (refine' aGq hR ?_; clear hR; intro w hR) | (go_at_call 232; refine (mul64_any a b (by omega) (by omega) _).mono ?_; rintro e w ⟨rfl, hb⟩; replace hR := hR.call hb; clear hb) | (rw [add64']; (case hx => omega); (case hy => omega); (try (case hy' => omega)); (case hc0 => omega); (case hc => omega)))
 go_ret2
 exact ⟨_, _, t3, t4, by omega, t2, (times_q a b s m (by omega) (by omega) hs0 hs hm0 hm).2.2.2.2, rfl, hR.below⟩
theorem w_zz : (0 : Int) ≤ 0 ∧ (0 : Int) < 18446744073709551616 := ⟨Int.le_refl 0, by decide⟩
theorem xDf (a b s m : Int) (ha : 0 ≤ a ∧ a < 18446744073709551616) (hb : 0 ≤ b ∧ b < 18446744073709551616) (hs : 0 ≤ s ∧ s < 18446744073709551616) (hm : 0 ≤ m ∧ m < 18446744073709551616) (w : World) :
  Calls Tryz.prog 236 #[.int .u64 a, .int .u64 b, .int .u64 s, .int .u64 m] w fun e w' =>
  ∃ l h : Int, 0 ≤ l ∧ l < 18446744073709551616 ∧ 0 ≤ h ∧ h < 18446744073709551616 ∧ l + 18446744073709551616 * h = a * b + s + m ∧ e = .returned (.tuple #[.int .u64 l, .int .u64 h]) ∧ Below w.heap.size w w' :=
 times_any a b s m ha.1 ha.2 hb.1 hb.2 hs.1 hs.2 hm.1 hm.2 w
instance : RowT Tryz.prog 273 8 := .mk' (by kernel_rfl) (by kernel_rfl)
instance : xJh Tryz.prog 273 [.int .u64 0, .int .u64 0, .int .u64 0, .int .u64 0, .int .u64 0, .int .u64 0, .int .u64 0, .int .u64 0] := ⟨.agg #[.int .u64 0, .int .u64 0, .int .u64 0, .int .u64 0, .int .u64 0, .int .u64 0, .int .u64 0, .int .u64 0], by kernel_rfl, rfl⟩
theorem mul_core (x0 x1 x2 x3 y0 y1 y2 y3 l00 l01 l02 l03 l10 l11 l12 l13 l20 l21 l22 l23 l30 l31 l32 l33 h00 h01 h02 h03 h10 h11 h12 h13 h20 h21 h22 h23 h30 h31 h32 h33 : Int)
    (e00 : l00 + 18446744073709551616 * h00 = x0 * y0 + 0 + 0)
    (e01 : l01 + 18446744073709551616 * h01 = x0 * y1 + 0 + h00)
    (e02 : l02 + 18446744073709551616 * h02 = x0 * y2 + 0 + h01)
    (e03 : l03 + 18446744073709551616 * h03 = x0 * y3 + 0 + h02)
    (e10 : l10 + 18446744073709551616 * h10 = x1 * y0 + l01 + 0)
    (e11 : l11 + 18446744073709551616 * h11 = x1 * y1 + l02 + h10)
    (e12 : l12 + 18446744073709551616 * h12 = x1 * y2 + l03 + h11)
    (e13 : l13 + 18446744073709551616 * h13 = x1 * y3 + h03 + h12)
    (e20 : l20 + 18446744073709551616 * h20 = x2 * y0 + l11 + 0)
    (e21 : l21 + 18446744073709551616 * h21 = x2 * y1 + l12 + h20)
    (e22 : l22 + 18446744073709551616 * h22 = x2 * y2 + l13 + h21)
    (e23 : l23 + 18446744073709551616 * h23 = x2 * y3 + h13 + h22)
    (e30 : l30 + 18446744073709551616 * h30 = x3 * y0 + l21 + 0)
    (e31 : l31 + 18446744073709551616 * h31 = x3 * y1 + l22 + h30)
    (e32 : l32 + 18446744073709551616 * h32 = x3 * y2 + l23 + h31)
    (e33 : l33 + 18446744073709551616 * h33 = x3 * y3 + h23 + h32)
    :
    ((x0 + 18446744073709551616 * (x1 + 18446744073709551616 * (x2 + 18446744073709551616 * x3))) * (y0 + 18446744073709551616 * (y1 + 18446744073709551616 * (y2 + 18446744073709551616 * y3)))) =
      (l00 + 18446744073709551616 * (l10 + 18446744073709551616 * (l20 + 18446744073709551616 * l30))) + (l31 + 18446744073709551616 * (l32 + 18446744073709551616 * (l33 + 18446744073709551616 * h33))) * (18446744073709551616 * 18446744073709551616 * 18446744073709551616 * 18446744073709551616) := by
  have d : ((x0 + 18446744073709551616 * (x1 + 18446744073709551616 * (x2 + 18446744073709551616 * x3))) * (y0 + 18446744073709551616 * (y1 + 18446744073709551616 * (y2 + 18446744073709551616 * y3)))) =
     (x0 * y0 + 18446744073709551616 * (x0 * y1 + 18446744073709551616 * (x0 * y2 + 18446744073709551616 * (x0 * y3)))) + 18446744073709551616 * ((x1 * y0 + 18446744073709551616 * (x1 * y1 + 18446744073709551616 * (x1 * y2 + 18446744073709551616 * (x1 * y3)))) +
     18446744073709551616 * ((x2 * y0 + 18446744073709551616 * (x2 * y1 + 18446744073709551616 * (x2 * y2 + 18446744073709551616 * (x2 * y3)))) + 18446744073709551616 * (x3 * y0 + 18446744073709551616 * (x3 * y1 + 18446744073709551616 * (x3 * y2 + 18446744073709551616 * (x3 * y3)))))) := by grind
  rw [d]
  generalize x0 * y0 = p00 at e00 ⊢
  generalize x0 * y1 = p01 at e01 ⊢
  generalize x0 * y2 = p02 at e02 ⊢
  generalize x0 * y3 = p03 at e03 ⊢
  generalize x1 * y0 = p10 at e10 ⊢
  generalize x1 * y1 = p11 at e11 ⊢
  generalize x1 * y2 = p12 at e12 ⊢
  generalize x1 * y3 = p13 at e13 ⊢
  generalize x2 * y0 = p20 at e20 ⊢
  generalize x2 * y1 = p21 at e21 ⊢
  generalize x2 * y2 = p22 at e22 ⊢
  generalize x2 * y3 = p23 at e23 ⊢
  generalize x3 * y0 = p30 at e30 ⊢
  generalize x3 * y1 = p31 at e31 ⊢
  generalize x3 * y2 = p32 at e32 ⊢
  generalize x3 * y3 = p33 at e33 ⊢
  clear d
  omega
theorem mul_fin (a b : Nat) (ha : a < B) (hb : b < B) (r0 r1 r2 r3 r4 r5 r6 r7 : Int) (h0 : 0 ≤ r0 ∧ r0 < 18446744073709551616) (h1 : 0 ≤ r1 ∧ r1 < 18446744073709551616) (h2 : 0 ≤ r2 ∧ r2 < 18446744073709551616) (h3 : 0 ≤ r3 ∧ r3 < 18446744073709551616)
  (h4 : 0 ≤ r4 ∧ r4 < 18446744073709551616) (h5 : 0 ≤ r5 ∧ r5 < 18446744073709551616) (h6 : 0 ≤ r6 ∧ r6 < 18446744073709551616) (h7 : 0 ≤ r7 ∧ r7 < 18446744073709551616)
  (h : ((wd a 0 + 18446744073709551616 * (wd a 1 + 18446744073709551616 * (wd a 2 + 18446744073709551616 * wd a 3))) * (wd b 0 + 18446744073709551616 * (wd b 1 + 18446744073709551616 * (wd b 2 + 18446744073709551616 * wd b 3)))) =
   (r0 + 18446744073709551616 * (r1 + 18446744073709551616 * (r2 + 18446744073709551616 * r3))) + (r4 + 18446744073709551616 * (r5 + 18446744073709551616 * (r6 + 18446744073709551616 * r7))) * (18446744073709551616 * 18446744073709551616 * 18446744073709551616 * 18446744073709551616)) :
  [Value.int .u64 r0, .int .u64 r1, .int .u64 r2, .int .u64 r3] = nl (a * b) ∧ [Value.int .u64 r4, .int .u64 r5, .int .u64 r6, .int .u64 r7] = nl (a * b / B) := by
 rw [← four a ha, ← four b hb, ← Int.natCast_mul] at h
 have hB : (B : Int) = 18446744073709551616 * 18446744073709551616 * 18446744073709551616 * 18446744073709551616 := by rw [B_eq]; rfl
 rw [← hB] at h
 refine ⟨nl_eq _ _ _ _ _ h0 h1 h2 h3 (r4 + 18446744073709551616 * (r5 + 18446744073709551616 * (r6 + 18446744073709551616 * r7))) h, nl_eq _ _ _ _ _ h4 h5 h6 h7 0 ?_⟩
 rw [Int.natCast_ediv, h, Int.add_mul_ediv_right _ _ (by rw [hB]; decide), Int.ediv_eq_zero_of_lt (by omega) (by rw [hB]; omega)]
 omega
theorem mul_any (a b : Nat) (ha : a < B) (hb : b < B) (w : World) : Calls Tryz.prog 226 #[num a, num b] w fun e w' =>
  e = .returned (.tuple #[num (a * b), num (a * b / B)]) ∧ Below w.heap.size w w' := by
 have a0 := xDq a 0; have a1 := xDq a 1; have a2 := xDq a 2; have a3 := xDq a 3
 have b0 := xDq b 0; have b1 := xDq b 1; have b2 := xDq b 2; have b3 := xDq b 3
 have u0 := xEc a 0; have u1 := xEc a 1; have u2 := xEc a 2; have u3 := xEc a 3
 have v0 := xEc b 0; have v1 := xEc b 1; have v2 := xEc b 2; have v3 := xEc b 3
 have hR := Rep.init w
 go_enter Tryz.func226, Tryz.ntmps226
 go_wp2_with (first | (refine' aAq hR ?_; clear hR; intro blk w hR) | (refine' aBq hR ?_; clear hR; intro blk w hR) | (refine' aCq hR ?_) | (refine' aDq hR ?_) | (refine' aEq hR ?_) | (refine' aFq hR ?_; clear hR; intro w hR) | (refine' aGq hR ?_; clear hR; intro w hR) | fail)
 refine wp_loop_rounds 5 ?_
 rw [rounds_succ]
 go_wp2_with (first | (refine' aAq hR ?_; clear hR; intro blk w hR) | (refine' aBq hR ?_; clear hR; intro blk w hR) | (refine' aCq hR ?_) | (refine' aDq hR ?_) | (refine' aEq hR ?_) | (refine' aFq hR ?_; clear hR; intro w hR) | (refine' aGq hR ?_; clear hR; intro w hR) | fail)
 refine wp_loop_rounds 5 ?_
 rw [rounds_succ]
 go_wp2_with (first | (refine' aAq hR ?_; clear hR; intro blk w hR) | (refine' aBq hR ?_; clear hR; intro blk w hR) | (refine' aCq hR ?_) | (refine' aDq hR ?_) | (refine' aEq hR ?_) | (refine' aFq hR ?_; clear hR; intro w hR) | (refine' aGq hR ?_; clear hR; intro w hR) | (go_at_call 236; refine (xDf _ _ _ _ (by first | exact w_zz | exact ⟨by assumption, by assumption⟩) (by first | exact w_zz | exact ⟨by assumption, by assumption⟩) (by first | exact w_zz | exact ⟨by assumption, by assumption⟩) (by first | exact w_zz | exact ⟨by assumption, by assumption⟩) _).mono ?_; rintro e w ⟨l00, h00, p00, q00, r00, s00, e00, rfl, hb⟩; replace hR := hR.call hb; clear hb))
 rw [rounds_succ]
 go_wp2_with (first | (refine' aAq hR ?_; clear hR; intro blk w hR) | (refine' aBq hR ?_; clear hR; intro blk w hR) | (refine' aCq hR ?_) | (refine' aDq hR ?_) | (refine' aEq hR ?_) | (refine' aFq hR ?_; clear hR; intro w hR) | (refine' aGq hR ?_; clear hR; intro w hR) | (go_at_call 236; refine (xDf _ _ _ _ (by first | exact w_zz | exact ⟨by assumption, by assumption⟩) (by first | exact w_zz | exact ⟨by assumption, by assumption⟩) (by first | exact w_zz | exact ⟨by assumption, by assumption⟩) (by first | exact w_zz | exact ⟨by assumption, by assumption⟩) _).mono ?_; rintro e w ⟨l01, h01, p01, q01, r01, s01, e01, rfl, hb⟩; replace hR := hR.call hb; clear hb))
 rw [rounds_succ]
 go_wp2_with (first | (refine' aAq hR ?_; clear hR; intro blk w hR) | (refine' aBq hR ?_; clear hR; intro blk w hR) | (refine' aCq hR ?_) | (refine' aDq hR ?_) | (refine' aEq hR ?_) | (refine' aFq hR ?_; clear hR; intro w hR) | (refine' aGq hR ?_; clear hR; intro w hR) | (go_at_call 236; refine (xDf _ _ _ _ (by first | exact w_zz | exact ⟨by assumption, by assumption⟩) (by first | exact w_zz | exact ⟨by assumption, by assumption⟩) (by first | exact w_zz | exact ⟨by assumption, by assumption⟩) (by first | exact w_zz | exact ⟨by assumption, by assumption⟩) _).mono ?_; rintro e w ⟨l02, h02, p02, q02, r02, s02, e02, rfl, hb⟩; replace hR := hR.call hb; clear hb))
 rw [rounds_succ]
 go_wp2_with (first | (refine' aAq hR ?_; clear hR; intro blk w hR) | (refine' aBq hR ?_; clear hR; intro blk w hR) | (refine' aCq hR ?_) | (refine' aDq hR ?_) | (refine' aEq hR ?_) | (refine' aFq hR ?_; clear hR; intro w hR) | (refine' aGq hR ?_; clear hR; intro w hR) | (go_at_call 236; refine (xDf _ _ _ _ (by first | exact w_zz | exact ⟨by assumption, by assumption⟩) (by first | exact w_zz | exact ⟨by assumption, by assumption⟩) (by first | exact w_zz | exact ⟨by assumption, by assumption⟩) (by first | exact w_zz | exact ⟨by assumption, by assumption⟩) _).mono ?_; rintro e w ⟨l03, h03, p03, q03, r03, s03, e03, rfl, hb⟩; replace hR := hR.call hb; clear hb))
 rw [rounds_succ]
 go_wp2_with (first | (refine' aAq hR ?_; clear hR; intro blk w hR) | (refine' aBq hR ?_; clear hR; intro blk w hR) | (refine' aCq hR ?_) | (refine' aDq hR ?_) | (refine' aEq hR ?_) | (refine' aFq hR ?_; clear hR; intro w hR) | (refine' aGq hR ?_; clear hR; intro w hR) | fail)
 rw [rounds_succ]
 go_wp2_with (first | (refine' aAq hR ?_; clear hR; intro blk w hR) | (refine' aBq hR ?_; clear hR; intro blk w hR) | (refine' aCq hR ?_) | (refine' aDq hR ?_) | (refine' aEq hR ?_) | (refine' aFq hR ?_; clear hR; intro w hR) | (refine' aGq hR ?_; clear hR; intro w hR) | fail)
 refine wp_loop_rounds 5 ?_
 rw [rounds_succ]
 go_wp2_with (first | (refine' aAq hR ?_; clear hR; intro blk w hR) | (refine' aBq hR ?_; clear hR; intro blk w hR) | (refine' aCq hR ?_) | (refine' aDq hR ?_) | (refine' aEq hR ?_) | (refine' aFq hR ?_; clear hR; intro w hR) | (refine' aGq hR ?_; clear hR; intro w hR) | (go_at_call 236; refine (xDf _ _ _ _ (by first | exact w_zz | exact ⟨by assumption, by assumption⟩) (by first | exact w_zz | exact ⟨by assumption, by assumption⟩) (by first | exact w_zz | exact ⟨by assumption, by assumption⟩) (by first | exact w_zz | exact ⟨by assumption, by assumption⟩) _).mono ?_; rintro e w ⟨l10, h10, p10, q10, r10, s10, e10, rfl, hb⟩; replace hR := hR.call hb; clear hb))
 rw [rounds_succ]
 go_wp2_with (first | (refine' aAq hR ?_; clear hR; intro blk w hR) | (refine' aBq hR ?_; clear hR; intro blk w hR) | (refine' aCq hR ?_) | (refine' aDq hR ?_) | (refine' aEq hR ?_) | (refine' aFq hR ?_; clear hR; intro w hR) | (refine' aGq hR ?_; clear hR; intro w hR) | (go_at_call 236; refine (xDf _ _ _ _ (by first | exact w_zz | exact ⟨by assumption, by assumption⟩) (by first | exact w_zz | exact ⟨by assumption, by assumption⟩) (by first | exact w_zz | exact ⟨by assumption, by assumption⟩) (by first | exact w_zz | exact ⟨by assumption, by assumption⟩) _).mono ?_; rintro e w ⟨l11, h11, p11, q11, r11, s11, e11, rfl, hb⟩; replace hR := hR.call hb; clear hb))
 rw [rounds_succ]
 go_wp2_with (first | (refine' aAq hR ?_; clear hR; intro blk w hR) | (refine' aBq hR ?_; clear hR; intro blk w hR) | (refine' aCq hR ?_) | (refine' aDq hR ?_) | (refine' aEq hR ?_) | (refine' aFq hR ?_; clear hR; intro w hR) | (refine' aGq hR ?_; clear hR; intro w hR) | (go_at_call 236; refine (xDf _ _ _ _ (by first | exact w_zz | exact ⟨by assumption, by assumption⟩) (by first | exact w_zz | exact ⟨by assumption, by assumption⟩) (by first | exact w_zz | exact ⟨by assumption, by assumption⟩) (by first | exact w_zz | exact ⟨by assumption, by assumption⟩) _).mono ?_; rintro e w ⟨l12, h12, p12, q12, r12, s12, e12, rfl, hb⟩; replace hR := hR.call hb; clear hb))
 rw [rounds_succ]
 go_wp2_with (first | (refine' aAq hR ?_; clear hR; intro blk w hR) | (refine' aBq hR ?_; clear hR; intro blk w hR) | (refine' aCq hR ?_) | (refine' aDq hR ?_) | (refine' aEq hR ?_) | (refine' aFq hR ?_; clear hR; intro w hR) | (refine' aGq hR ?_; clear hR; intro w hR) | (go_at_call 236; refine (xDf _ _ _ _ (by first | exact w_zz | exact ⟨by assumption, by assumption⟩) (by first | exact w_zz | exact ⟨by assumption, by assumption⟩) (by first | exact w_zz | exact ⟨by assumption, by assumption⟩) (by first | exact w_zz | exact ⟨by assumption, by assumption⟩) _).mono ?_; rintro e w ⟨l13, h13, p13, q13, r13, s13, e13, rfl, hb⟩; replace hR := hR.call hb; clear hb))
 rw [rounds_succ]
 go_wp2_with (first | (refine' aAq hR ?_; clear hR; intro blk w hR) | (refine' aBq hR ?_; clear hR; intro blk w hR) | (refine' aCq hR ?_) | (refine' aDq hR ?_) | (refine' aEq hR ?_) | (refine' aFq hR ?_; clear hR; intro w hR) | (refine' aGq hR ?_; clear hR; intro w hR) | fail)
 rw [rounds_succ]
 go_wp2_with (first | (refine' aAq hR ?_; clear hR; intro blk w hR) | (refine' aBq hR ?_; clear hR; intro blk w hR) | (refine' aCq hR ?_) | (refine' aDq hR ?_) | (refine' aEq hR ?_) | (refine' aFq hR ?_; clear hR; intro w hR) | (refine' aGq hR ?_; clear hR; intro w hR) | fail)
 refine wp_loop_rounds 5 ?_
 rw [rounds_succ]
 go_wp2_with (first | (refine' aAq hR ?_; clear hR; intro blk w hR) | (refine' aBq hR ?_; clear hR; intro blk w hR) | (refine' aCq hR ?_) | (refine' aDq hR ?_) | (refine' aEq hR ?_) | (refine' aFq hR ?_; clear hR; intro w hR) | (refine' aGq hR ?_; clear hR; intro w hR) | (go_at_call 236; refine (xDf _ _ _ _ (by first | exact w_zz | exact ⟨by assumption, by assumption⟩) (by first | exact w_zz | exact ⟨by assumption, by assumption⟩) (by first | exact w_zz | exact ⟨by assumption, by assumption⟩) (by first | exact w_zz | exact ⟨by assumption, by assumption⟩) _).mono ?_; rintro e w ⟨l20, h20, p20, q20, r20, s20, e20, rfl, hb⟩; replace hR := hR.call hb; clear hb))
 rw [rounds_succ]
 go_wp2_with (first | (refine' aAq hR ?_; clear hR; intro blk w hR) | (refine' aBq hR ?_; clear hR; intro blk w hR) | (refine' aCq hR ?_) | (refine' aDq hR ?_) | (refine' aEq hR ?_) | (refine' aFq hR ?_; clear hR; intro w hR) | (refine' aGq hR ?_; clear hR; intro w hR) | (go_at_call 236; refine (xDf _ _ _ _ (by first | exact w_zz | exact ⟨by assumption, by assumption⟩) (by first | exact w_zz | exact ⟨by assumption, by assumption⟩) (by first | exact w_zz | exact ⟨by assumption, by assumption⟩) (by first | exact w_zz | exact ⟨by assumption, by assumption⟩) _).mono ?_; rintro e w ⟨l21, h21, p21, q21, r21, s21, e21, rfl, hb⟩; replace hR := hR.call hb; clear hb))
 rw [rounds_succ]
 go_wp2_with (first | (refine' aAq hR ?_; clear hR; intro blk w hR) | (refine' aBq hR ?_; clear hR; intro blk w hR) | (refine' aCq hR ?_) | (refine' aDq hR ?_) | (refine' aEq hR ?_) | (refine' aFq hR ?_; clear hR; intro w hR) | (refine' aGq hR ?_; clear hR; intro w hR) | (go_at_call 236; refine (xDf _ _ _ _ (by first | exact w_zz | exact ⟨by assumption, by assumption⟩) (by first | exact w_zz | exact ⟨by assumption, by assumption⟩) (by first | exact w_zz | exact ⟨by assumption, by assumption⟩) (by first | exact w_zz | exact ⟨by assumption, by assumption⟩) _).mono ?_; rintro e w ⟨l22, h22, p22, q22, r22, s22, e22, rfl, hb⟩; replace hR := hR.call hb; clear hb))
 rw [rounds_succ]
 go_wp2_with (first | (refine' aAq hR ?_; clear hR; intro blk w hR) | (refine' aBq hR ?_; clear hR; intro blk w hR) | (refine' aCq hR ?_) | (refine' aDq hR ?_) | (refine' aEq hR ?_) | (refine' aFq hR ?_; clear hR; intro w hR) | (refine' aGq hR ?_; clear hR; intro w hR) | (go_at_call 236; refine (xDf _ _ _ _ (by first | exact w_zz | exact ⟨by assumption, by assumption⟩) (by first | exact w_zz | exact ⟨by assumption, by assumption⟩) (by first | exact w_zz | exact ⟨by assumption, by assumption⟩) (by first | exact w_zz | exact ⟨by assumption, by assumption⟩) _).mono ?_; rintro e w ⟨l23, h23, p23, q23, r23, s23, e23, rfl, hb⟩; replace hR := hR.call hb; clear hb))
 rw [rounds_succ]
 go_wp2_with (first | (refine' aAq hR ?_; clear hR; intro blk w hR) | (refine' aBq hR ?_; clear hR; intro blk w hR) | (refine' aCq hR ?_) | (refine' aDq hR ?_) | (refine' aEq hR ?_) | (refine' aFq hR ?_; clear hR; intro w hR) | (refine' aGq hR ?_; clear hR; intro w hR) | fail)
 rw [rounds_succ]
 go_wp2_with (first | (refine' aAq hR ?_; clear hR; intro blk w hR) | (refine' aBq hR ?_; clear hR; intro blk w hR) | (refine' aCq hR ?_) | (refine' aDq hR ?_) | (refine' aEq hR ?_) | (refine' aFq hR ?_; clear hR; intro w hR) | (refine' aGq hR ?_; clear hR; intro w hR) | fail)
 refine wp_loop_rounds 5 ?_
 rw [rounds_succ]
 go_wp2_with (first | (refine' aAq hR ?_; clear hR; intro blk w hR) | (refine' aBq hR ?_; clear hR; intro blk w hR) | (refine' aCq hR ?_) | (refine' aDq hR ?_) | (refine' aEq hR ?_) | (refine' aFq hR ?_; clear hR; intro w hR) | (refine' aGq hR ?_; clear hR; intro w hR) | (go_at_call 236; refine (xDf _ _ _ _ (by first | exact w_zz | exact ⟨by assumption, by assumption⟩) (by first | exact w_zz | exact ⟨by assumption, by assumption⟩) (by first | exact w_zz | exact ⟨by assumption, by assumption⟩) (by first | exact w_zz | exact ⟨by assumption, by assumption⟩) _).mono ?_; rintro e w ⟨l30, h30, p30, q30, r30, s30, e30, rfl, hb⟩; replace hR := hR.call hb; clear hb))
 rw [rounds_succ]
 go_wp2_with (first | (refine' aAq hR ?_; clear hR; intro blk w hR) | (refine' aBq hR ?_; clear hR; intro blk w hR) | (refine' aCq hR ?_) | (refine' aDq hR ?_) | (refine' aEq hR ?_) | (refine' aFq hR ?_; clear hR; intro w hR) | (refine' aGq hR ?_; clear hR; intro w hR) | (go_at_call 236; refine (xDf _ _ _ _ (by first | exact w_zz | exact ⟨by assumption, by assumption⟩) (by first | exact w_zz | exact ⟨by assumption, by assumption⟩) (by first | exact w_zz | exact ⟨by assumption, by assumption⟩) (by first | exact w_zz | exact ⟨by assumption, by assumption⟩) _).mono ?_; rintro e w ⟨l31, h31, p31, q31, r31, s31, e31, rfl, hb⟩; replace hR := hR.call hb; clear hb))
 rw [rounds_succ]
 go_wp2_with (first | (refine' aAq hR ?_; clear hR; intro blk w hR) | (refine' aBq hR ?_; clear hR; intro blk w hR) | (refine' aCq hR ?_) | (refine' aDq hR ?_) | (refine' aEq hR ?_) | (refine' aFq hR ?_; clear hR; intro w hR) | (refine' aGq hR ?_; clear hR; intro w hR) | (go_at_call 236; refine (xDf _ _ _ _ (by first | exact w_zz | exact ⟨by assumption, by assumption⟩) (by first | exact w_zz | exact ⟨by assumption, by assumption⟩) (by first | exact w_zz | exact ⟨by assumption, by assumption⟩) (by first | exact w_zz | exact ⟨by assumption, by assumption⟩) _).mono ?_; rintro e w ⟨l32, h32, p32, q32, r32, s32, e32, rfl, hb⟩; replace hR := hR.call hb; clear hb))
 rw [rounds_succ]
 go_wp2_with (first | (refine' aAq hR ?_; clear hR; intro blk w hR) | (refine' aBq hR ?_; clear hR; intro blk w hR) | (refine' aCq hR ?_) | (refine' aDq hR ?_) | (refine' aEq hR ?_) | (refine' aFq hR ?_; clear hR; intro w hR) | (refine' aGq hR ?_; clear hR; intro w hR) | (go_at_call 236; refine (xDf _ _ _ _ (by first | exact w_zz | exact ⟨by assumption, by assumption⟩) (by first | exact w_zz | exact ⟨by assumption, by assumption⟩) (by first | exact w_zz | exact ⟨by assumption, by assumption⟩) (by first | exact w_zz | exact ⟨by assumption, by assumption⟩) _).mono ?_; rintro e w ⟨l33, h33, p33, q33, r33, s33, e33, rfl, hb⟩; replace hR := hR.call hb; clear hb))
 rw [rounds_succ]
 go_wp2_with (first | (refine' aAq hR ?_; clear hR; intro blk w hR) | (refine' aBq hR ?_; clear hR; intro blk w hR) | (refine' aCq hR ?_) | (refine' aDq hR ?_) | (refine' aEq hR ?_) | (refine' aFq hR ?_; clear hR; intro w hR) | (refine' aGq hR ?_; clear hR; intro w hR) | fail)
 rw [rounds_succ]
 go_wp2_with (first | (refine' aAq hR ?_; clear hR; intro blk w hR) | (refine' aBq hR ?_; clear hR; intro blk w hR) | (refine' aCq hR ?_) | (refine' aDq hR ?_) | (refine' aEq hR ?_) | (refine' aFq hR ?_; clear hR; intro w hR) | (refine' aGq hR ?_; clear hR; intro w hR) | fail)
 have key := mul_core (wd a 0) (wd a 1) (wd a 2) (wd a 3) (wd b 0) (wd b 1) (wd b 2) (wd b 3) _ _ _ _ _ _ _ _ _ _ _ _ _ _ _ _ _ _ _ _ _ _ _ _ _ _ _ _ _ _ _ _ e00 e01 e02 e03 e10 e11 e12 e13 e20 e21 e22 e23 e30 e31 e32 e33
 have hq := mul_fin a b ha hb _ _ _ _ _ _ _ _ ⟨p00, q00⟩ ⟨p10, q10⟩ ⟨p20, q20⟩ ⟨p30, q30⟩ ⟨p31, q31⟩ ⟨p32, q32⟩ ⟨p33, q33⟩ ⟨r33, s33⟩ key
 clear key e00 e01 e02 e03 e10 e11 e12 e13 e20 e21 e22 e23 e30 e31 e32 e33 p00 p01 p02 p03 p10 p11 p12 p13 p20 p21 p22 p23 p30 p31 p32 p33 q00 q01 q02 q03 q10 q11 q12 q13 q20 q21 q22 q23 q30 q31 q32 q33 r00 r01 r02 r03 r10 r11 r12 r13 r20 r21 r22 r23 r30 r31 r32 r33 s00 s01 s02 s03 s10 s11 s12 s13 s20 s21 s22 s23 s30 s31 s32 s33 a0 a1 a2 a3 b0 b1 b2 b3 u0 u1 u2 u3 v0 v1 v2 v3
 refine xAe hR [0, 0, 0, 1, 1, 1, 2, 2] [0] xBo (by kernel_rfl) rfl rfl (fun K hK => ?_)
 clear hR
 repeat ((first | (refine xAy ?_) | (refine' xAk (by decide) rfl (.inl rfl) rfl ?ha ?_) | (refine' xAk (by decide) rfl (.inr rfl) rfl ?ha ?_) | (refine' aHq ?ha ?_) | (refine' aIq ?ha ?_) | (refine' aJq ?ha ?_) | (refine' aKq ?ha ?_) | (refine' aLq ?ha ?_) | ((first | refine' xAc (by decide) rfl rfl rfl rfl (fun w => ?hq) ?ha ?_ | refine' xAs (by decide) rfl rfl rfl rfl (fun w => ?hq) ?ha ?_ | refine' xAi (by decide) rfl rfl rfl (fun w => ?hq) ?ha ?_ | refine' xAb (by decide) rfl rfl rfl (fun w => ?hq) ?ha ?_ | refine' xAh (by decide) rfl rfl rfl (fun w => ?hq) ?ha ?_ | refine' xAq (by decide) rfl rfl rfl rfl (fun w => ?hq) ?ha ?_ | refine' xAr (by decide) rfl rfl rfl rfl rfl rfl (fun w => ?hq) ?ha ?_ | refine' xAo (by decide) rfl rfl (fun w => ?hq) ?ha ?_ | refine' xAj (by decide) rfl rfl rfl (fun w => ?hq) ?ha ?_ | refine' xAp (by decide) rfl rfl rfl (fun w => ?hq) ?ha ?_); (case hq => go_simp; try rfl)) | (refine' xAf (by decide) rfl rfl rfl ?ha ?_) | (refine' xAx (by decide) rfl rfl rfl rfl ?ha ?_) | (refine' xAw (by decide) rfl ?ha ?_) | fail); try (case ha => simp only [kP, kQ, kA, kB]; try rfl))
 refine xBb (hK _ _ ?_)
 clear hK K
 refine xBe (fun Q hQ => ?_)
 try simp only [List.nil_append, List.cons_append]
 repeat ((first | refine' xAm rfl (.inl rfl) rfl ?hk ?ha ?_ | refine' xAm rfl (.inr rfl) rfl ?hk ?ha ?_ | (refine' aMq ?hk ?ha ?_) | (refine' aNq ?hk ?ha ?_) | (refine' aOq ?hk ?ha ?_) | (refine' xAz rfl (fun w => ?hq) ?hk ?ha ?_; (case hq => go_simp; try rfl))); (case hk => intro p hp; first | exact absurd hp List.not_mem_nil | (obtain rfl := List.mem_singleton.1 hp; repeat (first | exact List.Mem.head _ | apply mT))); (case ha => simp only [kP, kQ, kA, kB]; try rfl))
 refine xBd (fun w hR => hQ _ _ ?_)
 clear hQ Q
 simp only [Exit.then]
 rename_i K0 k0
 refine k0 _ _ (wp_ret ?_)
 (refine' bodyPost_ret (xCy Tryz.results226 rfl (hR.loadAll (P := Tryz.prog) (ty := 24) ?hm ?hn) rfl (hR.loadAll (P := Tryz.prog) (ty := 24) ?hm2 ?hn2)) rfl ⟨?_, hR.below⟩; (case hm => first | with_reducible assumption | repeat (first | exact .head _ | apply mT)); (case hn => first | rfl | simp); (case hm2 => first | with_reducible assumption | repeat (first | exact .head _ | apply mT)); (case hn2 => first | rfl | simp))
 show Ending.returned (.tuple #[.agg (List.toArray [_, _, _, _]), .agg (List.toArray [_, _, _, _])]) = _
 rw [hq.1, hq.2]
end
section
theorem d_lit {a b q r : Nat} {e : Int} (ha : a < B) (hb : b < B) (hq : quo0 a b = q) (hr : rem0 a b = r) (he : (if b = 0 then (1 : Int) else 0) = e) (w : World) : Calls Tryz.prog 210 #[num a, num b] w fun e' w' =>
  e' = .returned (.tuple #[num q, num r, .int .i64 e]) ∧ Below w.heap.size w w' := by
 have := div_any a b ha hb w
 rwa [hq, hr, he] at this
theorem w_lit {a b m r : Nat} {e : Int} (ha : a < B) (hb : b < B) (hm : m < B) (hr : widN a b m = r) (he : (if m = 0 then (1 : Int) else 0) = e) (w : World) : Calls Tryz.prog 227 #[num a, num b, num m] w fun e' w' =>
  e' = .returned (.tuple #[num r, .int .i64 e]) ∧ Below w.heap.size w w' := by
 have := wide_any a b m ha hb hm w
 rwa [hr, he] at this
theorem c_lit {a b r : Nat} (ha : a < B) (hb : b < B) (hr : gcdN a b = r) (w : World) : Calls Tryz.prog 209 #[num a, num b] w fun e' w' =>
  e' = .returned (num r) ∧ Below w.heap.size w w' := by
 have := common_any a b ha hb w
 rwa [hr] at this
end
section
attribute [local irreducible] Calls
theorem m_lit {a b l h : Nat} (ha : a < B) (hb : b < B) (hl : a * b % B = l) (hh : a * b / B = h) (w : World) : Calls Tryz.prog 226 #[num a, num b] w fun e w' =>
  e = .returned (.tuple #[num l, num h]) ∧ Below w.heap.size w w' := by
 have := mul_any a b ha hb w
 rw [hh, ← xHb (a * b), hl] at this
 exact this
theorem a_lit {a b s : Nat} {c : Int} (ha : a < B) (hb : b < B) (hs : (a + b) % B = s) (hc : (((a + b) / B : Nat) : Int) = c) (w : World) : Calls Tryz.prog 203 #[num a, num b] w fun e w' =>
  e = .returned (.tuple #[num s, .int .u64 c]) ∧ Below w.heap.size w w' := by
 have := add_any a b ha hb w
 rw [hc, ← xHb (a + b), hs] at this
 exact this
theorem xDg {a b : Nat} {c : Int} (ha : a < B) (hb : b < B) (hc : cmpN a b = c) (w : World) : Calls Tryz.prog 183 #[num a, num b] w fun e w' =>
  e = .returned (.int .i64 c) ∧ Below w.heap.size w w' := by
 have := cmp_any a b ha hb w
 rwa [hc] at this
end
section
section
variable {P : Program} {ops : Array Oper} {B0 : Nat} {w0 : World} {Kp : List (Nat × Obj)} {Q : Exit → Act → World → Prop}
abbrev ptrTo (b : Nat) : Value := .pointer (some ⟨b, 0, none⟩)
structure xGd (P : Program) (o : Oper) (ob : Obj) : Prop where
 guard : o.guard = none
 run : ∀ (a : Act) (w : World), (execOp a.eval o).run P w = .ok (.value (ptrTo w.heap.size)) (w.alloc ob)
theorem xEr {o : Oper} {ty : TypeId} {l : List Value} (hg : o.guard = none) (ho : o.op = .alloc ty) (hz : xJh P ty l) : xGd P o (.cells l.toArray ty) :=
 ⟨hg, fun a w => by
  obtain ⟨z, h1, h2⟩ := hz.is
  have hzv : (zeroValue ty).run P w = .ok z w := by
   cases hq : P.info? ty with
   | none => simp [hq] at h1
   | some i =>
    have : i.zero = some z := by simpa [hq] using h1
    simp [zeroValue, typeInfo, hq, this]
  have e : (Instr.alloc ty true (.tuple #[])).run P w = .ok (.pointer (some ⟨w.heap.size, 0, none⟩)) (w.alloc (.cells l.toArray ty)) := by
   simp only [Instr.alloc, Sem.run_bind, hzv, Result.andThen_ok, newVar, newRow, h2, newObj]
   rfl
  unfold execOp
  simp only [ho, Sem.run_bind, e, Result.andThen_ok, Sem.run_pure]⟩
def xFw (P : Program) (ops : Array Oper) (B0 : Nat) (w0 : World) (Kp : List (Nat × Obj)) (Q : Exit → Act → World → Prop) : Nat → Array Bool → Act → List (Nat × Obj) → Prop
  | 0, listed, a, L => Region.ready .any ops listed = [] ∧ ∀ w, Rep B0 w0 L w → Q .normal a w
  | f + 1, listed, a, L => (Region.ready .any ops listed = [] → ∀ w, Rep B0 w0 L w → Q .normal a w) ∧ ∀ i ∈ Region.ready .any ops listed, ∃ o, ops[i]? = some o ∧
      ((∃ ob, xGd P o ob ∧ ∀ b, xFw P ops B0 w0 Kp Q f (listed.setIfInBounds i true) (a.put o.dst (ptrTo b)) ((b, ob) :: L)) ∨
       (∃ v L', xBg P ops o v a (Rep B0 w0 L) (Rep B0 w0 L') ∧ (∀ p, p ∈ Kp → p ∈ L') ∧ xFw P ops B0 w0 Kp Q f (listed.setIfInBounds i true) (a.put o.dst v) L'))
theorem xEv : ∀ (f : Nat) (listed : Array Bool) (a : Act) (L : List (Nat × Obj)) (w : World), Rep B0 w0 L w → xFw P ops B0 w0 Kp Q f listed a L → wpAny P .any ops Q f listed a w
  | 0, _, _, _, w, hw, h => ⟨h.1, h.2 w hw⟩
  | f + 1, listed, a, L, w, hw, h => ⟨fun h0 => h.1 h0 w hw, fun i hi => by
      obtain ⟨o, ho, ⟨ob, hal, hn⟩ | ⟨v, L', hy, hk, hn⟩⟩ := h.2 i hi
      · unfold Go.wpOp
        simp only [ho]
        rw [if_pos (by simp [Region.wanted, hal.guard])]
        refine .inl ?_
        unfold Oper.wp
        rw [hal.run]
        simp only [Oper.upon]
        exact xEv f _ _ _ _ (hw.alloc ob) (hn _)
      · exact hy.wpOp ho hw fun w' hw' => xEv f _ _ _ w' hw' hn⟩
theorem headI_first {i : Nat} {oi : Oper} {v : Value} (hi : ops[i]? = some oi) (hs : ∀ (j : Nat) (o : Oper) cs b, ops[j]? = some o → o.op ≠ .select cs b) : ∀ (fuel : Nat) (listed : Array Bool) (a : Act) (L : List (Nat × Obj)),
   (∀ j oj, ops[j]? = some oj → j ≠ i → listed.getD j true = false → (∀ e ∈ oj.after, Region.binds .any e = true → e.on ≠ i) → oi.apart ops oj = true) →
   i ∈ Region.ready .any ops listed → (∀ L', (∀ p, p ∈ Kp → p ∈ L') → xBg P ops oi v a (Rep B0 w0 L') (Rep B0 w0 L')) → (∀ p, p ∈ Kp → p ∈ L) →
   xFw P ops B0 w0 Kp Q fuel (listed.setIfInBounds i true) (a.put oi.dst v) L → xFw P ops B0 w0 Kp Q (fuel + 1) listed a L := by
 intro fuel
 induction fuel with
 | zero =>
  intro listed a L _ hr hy hL H
  refine ⟨fun h0 => (by rw [h0] at hr; cases hr), fun j hj => ?_⟩
  by_cases hji : j = i
  ·subst hji
   exact ⟨oi, hi, .inr ⟨v, L, hy L hL, hL, H⟩⟩
  ·have := ready_mono hj hji
   rw [H.1] at this
   cases this
 | succ fuel ih =>
  intro listed a L hfree hr hy hL H
  refine ⟨fun h0 => (by rw [h0] at hr; cases hr), fun j hj => ?_⟩
  by_cases hji : j = i
  ·subst hji
   exact ⟨oi, hi, .inr ⟨v, L, hy L hL, hL, H⟩⟩
  ·obtain ⟨oj, hoj, hH⟩ := H.2 j (ready_mono hj hji)
   obtain ⟨hjun, oj', hoj', hall⟩ := mem_ready.1 hj
   obtain rfl : oj = oj' := Option.some.inj (hoj.symm.trans hoj')
   have hnot : ∀ e ∈ oj.after, Region.binds .any e = true → e.on ≠ i := fun e he hb heq => by
    have h1 := hall e he hb
    have h0 := (mem_ready.1 hr).1
    rw [heq] at h1
    rcases Nat.lt_or_ge i listed.size with h' | h'
    ·simp [h'] at h0 h1; rw [h0] at h1; cases h1
    ·simp [Array.getElem?_eq_none h'] at h1
   obtain ⟨p1, p2, p3⟩ := Oper.apart_spec (hfree j oj hoj hji hjun hnot)
   have next : ∀ u L', (∀ p, p ∈ Kp → p ∈ L') → xFw P ops B0 w0 Kp Q fuel ((listed.setIfInBounds i true).setIfInBounds j true) ((a.put oi.dst v).put oj.dst u) L' → xFw P ops B0 w0 Kp Q (fuel + 1) (listed.setIfInBounds j true) (a.put oj.dst u) L' := fun u L' hL' Hj => by
    refine ih (listed.setIfInBounds j true) (a.put oj.dst u) L' (fun k ok hk hki hun hno => ?_) (ready_mono hr (Ne.symm hji)) (fun L'' hL'' => (xBg.of_put (fun cs b => hs i oi cs b hi) p3).2 (hy L'' hL'')) hL' ?_
    ·refine hfree k ok hk hki ?_ hno
     by_cases hjk : j = k
     ·subst hjk; exact hjun
     ·rw [getD_set_ne true hjk] at hun; exact hun
    ·rw [Array.setIfInBounds_comm _ _ hji, ← Act.put_comm a v u p2]
     exact Hj
   rcases hH with ⟨ob, hal, hn⟩ | ⟨u, L', hyj, hk, hn⟩
   ·exact ⟨oj, hoj, .inl ⟨ob, hal, fun b => next _ _ (fun p hp => .tail _ (hL p hp)) (hn b)⟩⟩
   ·exact ⟨oj, hoj, .inr ⟨u, L', (xBg.of_put (fun cs b => hs j oj cs b hoj) p1).1 hyj, hk, next _ _ hk hn⟩⟩
theorem xHl (hsel : Region.noSelect ops = true) {L : List (Nat × Obj)} {K : Act → Prop} {n : Nat} (hL : ∀ p, p ∈ Kp → p ∈ L) : ∀ (ord : List (Nat × Bool)) (listed : Array Bool) (a : Act), (∀ p ∈ ord, p.2 = true) → ordB ops (ord.map (·.1)) listed = true → headW P ops (xDa B0 w0 Kp) (Rep B0 w0 L) K ord a →
    (∀ a', K a' → xFw P ops B0 w0 Kp Q n (xCf (ord.map (·.1)) listed) a' L) → xFw P ops B0 w0 Kp Q (ord.length + n) listed a L
  | [], listed, a, _, _, h, hn => by rw [List.length_nil, Nat.zero_add]; exact hn a h
  | p :: r, listed, a, hf, hB, h, hn => by
    obtain ⟨i, b⟩ := p
    obtain rfl : b = true := hf (i, b) (.head _)
    simp only [List.map_cons, ordB, Bool.and_eq_true] at hB
    obtain ⟨⟨hr, hfr⟩, hB'⟩ := hB
    obtain ⟨o, v, ho, hy, _, hK⟩ := h
    have hr' : i ∈ Region.ready .any ops listed := by simpa using hr
    rw [List.length_cons, show r.length + 1 + n = (r.length + n) + 1 by omega]
    exact headI_first ho (Region.noSelect_spec hsel) (r.length + n) listed a L (Region.free_spec ho hfr) hr' (fun L' hL' => hy rfl _ ⟨L', rfl, hL'⟩) hL
      (xHl hsel hL r _ _ (fun q hq => hf q (.tail _ hq)) hB' hK hn)
theorem tailI : ∀ (r : List Nat) (listed : Array Bool) (a : Act) (L : List (Nat × Obj)), (∀ t ∈ r, t < ops.size) → seqB ops r listed = true → xEt P ops (xDa B0 w0 Kp) Q (r.filterMap (ops[·]?)) (Rep B0 w0 L) a → xFw P ops B0 w0 Kp Q r.length listed a L
  | [], listed, a, L, _, hB, h => ⟨by simpa [seqB] using hB, h⟩
  | t :: r, listed, a, L, hlt, hB, h => by
    obtain ⟨o, ho⟩ : ∃ o, ops[t]? = some o := ⟨_, Array.getElem?_eq_getElem (hlt t (.head _))⟩
    rw [List.filterMap_cons_some ho] at h
    obtain ⟨v, C', hy, ⟨L', rfl, hL'⟩, hr⟩ := h
    simp only [seqB, Bool.and_eq_true, decide_eq_true_eq] at hB
    rw [List.length_cons]
    refine ⟨fun h0 => (by rw [h0] at hB; cases hB.1), fun i hi => ?_⟩
    rw [hB.1] at hi
    obtain rfl : i = t := by simpa using hi
    exact ⟨o, ho, .inr ⟨v, L', hy, hL', tailI r _ _ L' (fun s hs => hlt s (.tail _ hs)) hB.2 hr⟩⟩
theorem Rep.swap {p q : Nat × Obj} {L : List (Nat × Obj)} : Rep B0 w0 (p :: q :: L) = Rep B0 w0 (q :: p :: L) := by
 have one : ∀ (p q : Nat × Obj) w, Rep B0 w0 (p :: q :: L) w → Rep B0 w0 (q :: p :: L) w := fun p q w h =>
  ⟨h.below, h.le, fun r hr => h.own r (by
   rcases List.mem_cons.1 hr with rfl | hr
   ·exact .tail _ (.head _)
   ·rcases List.mem_cons.1 hr with rfl | hr
    ·exact .head _
    ·exact .tail _ (.tail _ hr)), by
   have := h.uniq
   simp only [List.map_cons, List.nodup_cons, List.mem_cons, not_or] at this ⊢
   exact ⟨⟨fun e => this.1.1 e.symm, this.2.1⟩, this.1.2, this.2.2⟩⟩
 funext w
 exact propext ⟨one p q w, one q p w⟩
def alloc1OK (ops : Array Oper) (ord : List (Nat × Bool)) (i : Nat) (r : List Nat) : Bool :=
 let x := xCf (ord.map (·.1)) (Array.replicate ops.size false)
 Region.noSelect ops && ordB ops (ord.map (·.1)) (Array.replicate ops.size false) && ord.all (·.2) && decide (Region.ready .any ops x = [i]) && seqB ops r (x.setIfInBounds i true) && r.all (fun t => decide (t < ops.size))
def alloc2OK (ops : Array Oper) (ord : List (Nat × Bool)) (i j : Nat) (r : List Nat) : Bool :=
 let x := xCf (ord.map (·.1)) (Array.replicate ops.size false)
 Region.noSelect ops && ordB ops (ord.map (·.1)) (Array.replicate ops.size false) && ord.all (·.2) && decide (Region.ready .any ops x = [i, j]) && decide (Region.ready .any ops (x.setIfInBounds i true) = [j]) && decide (Region.ready .any ops (x.setIfInBounds j true) = [i]) &&
  seqB ops r ((x.setIfInBounds i true).setIfInBounds j true) && decide (i ≠ j) && r.all (fun t => decide (t < ops.size))
theorem xCb {id : Nat} {w : World} {l : List Oper} {L : List (Nat × Obj)} {a : Act} (hR : Rep B0 w0 L w) (ts : List Nat) (i : Nat) (di : Tmp) (oi : Oper) (zi : Obj) (r : List Nat) (hm : P.follows .mixedOrders = true) (hB : alloc1OK l.toArray (xBi 0 ts) i r = true) (htl : xCo 0 ts = i :: r)
  (hlen : ts.length = l.length) (hlen2 : (xBi 0 ts).length + (r.length + 1) = l.length) (hoi : l.toArray[i]? = some oi) (hdi : oi.dst = some di) (hai : xGd P oi zi)
  (h : ∀ K : List Oper → Act → Prop, (∀ r' a', (∀ b1, xEt P l.toArray (xDa B0 w0 L) Q r' (Rep B0 w0 ((b1, zi) :: L)) (a'.put (some di) (ptrTo b1))) → K (oi :: r') a') → xBr P l.toArray (xDa B0 w0 L) (Rep B0 w0 L) K ts l [] a) : (Code.region id l.toArray true).wp P Q a w := by
 rw [← hdi] at h
 simp only [alloc1OK, Bool.and_eq_true, decide_eq_true_eq] at hB
 obtain ⟨⟨⟨⟨⟨h1, h2⟩, h3⟩, h4⟩, h5⟩, h6⟩ := hB
 refine wp_region_any hm ?_
 have hlt : ∀ t ∈ r, t < l.toArray.size := fun t ht => by simpa using List.all_eq_true.1 h6 t ht
 have hH := h (fun tl a' => ∃ r', tl = oi :: r' ∧ ∀ b1, xEt P l.toArray (xDa B0 w0 L) Q r' (Rep B0 w0 ((b1, zi) :: L)) (a'.put oi.dst (ptrTo b1))) (fun r' a' h' => ⟨r', rfl, h'⟩)
 have hW := xCi (P := P) (ops := l.toArray) (I := xDa B0 w0 L) (C := Rep B0 w0 L) (K := fun a' => ∀ b1, xEt P l.toArray (xDa B0 w0 L) Q (r.filterMap (l.toArray[·]?)) (Rep B0 w0 ((b1, zi) :: L)) (a'.put oi.dst (ptrTo b1))) ts l [] 0 a hlen (fun j => by simp) (fun a' ha' => by
  obtain ⟨r', e, h'⟩ := ha'
  rw [htl, List.nil_append, List.filterMap_cons_some hoi] at e
  obtain rfl := (List.cons.inj e).2
  exact h') hH
 have key := xHl (Q := Q) (n := r.length + 1) h1 (fun p hp => hp) (xBi 0 ts) (Array.replicate l.toArray.size false) a (fun p hp => by simpa using List.all_eq_true.1 h3 p hp) h2 hW (fun a' ha' => by
  refine ⟨fun h0 => (by rw [h0] at h4; cases h4), fun k hk => ?_⟩
  rw [h4] at hk
  obtain rfl : k = i := by simpa using hk
  exact ⟨oi, hoi, .inl ⟨zi, hai, fun b => tailI r _ _ _ hlt h5 (ha' b)⟩⟩)
 have := xEv _ _ _ _ _ hR.drew key
 rw [hlen2] at this
 simpa using this
theorem xDs {id : Nat} {w : World} {l : List Oper} {L : List (Nat × Obj)} {a : Act} (hR : Rep B0 w0 L w) (ts : List Nat) (i j : Nat) (di dj : Tmp) (oi oj : Oper) (zi zj : Obj) (r : List Nat) (hm : P.follows .mixedOrders = true) (hB : alloc2OK l.toArray (xBi 0 ts) i j r = true) (htl : xCo 0 ts = i :: j :: r)
  (hlen : ts.length = l.length) (hlen2 : (xBi 0 ts).length + (r.length + 1 + 1) = l.length) (hoi : l.toArray[i]? = some oi) (hoj : l.toArray[j]? = some oj) (hdi : oi.dst = some di) (hdj : oj.dst = some dj) (hd : di ≠ dj) (hai : xGd P oi zi) (haj : xGd P oj zj)
  (h : ∀ K : List Oper → Act → Prop, (∀ r' a', (∀ b1 b2, xEt P l.toArray (xDa B0 w0 L) Q r' (Rep B0 w0 ((b2, zj) :: (b1, zi) :: L)) ((a'.put (some di) (ptrTo b1)).put (some dj) (ptrTo b2))) → K (oi :: oj :: r') a') → xBr P l.toArray (xDa B0 w0 L) (Rep B0 w0 L) K ts l [] a) : (Code.region id l.toArray true).wp P Q a w := by
 rw [← hdi, ← hdj] at h
 replace hd : ∀ d, oi.dst = some d → oj.dst ≠ some d := fun d h1 h2 => hd (by rw [hdi] at h1; rw [hdj] at h2; rw [Option.some.inj h1, Option.some.inj h2])
 simp only [alloc2OK, Bool.and_eq_true, decide_eq_true_eq] at hB
 obtain ⟨⟨⟨⟨⟨⟨⟨⟨h1, h2⟩, h3⟩, h4⟩, h5⟩, h6⟩, h7⟩, h8⟩, h9⟩ := hB
 refine wp_region_any hm ?_
 have hlt : ∀ t ∈ r, t < l.toArray.size := fun t ht => by simpa using List.all_eq_true.1 h9 t ht
 have hH := h (fun tl a' => ∃ r', tl = oi :: oj :: r' ∧ ∀ b1 b2, xEt P l.toArray (xDa B0 w0 L) Q r' (Rep B0 w0 ((b2, zj) :: (b1, zi) :: L)) ((a'.put oi.dst (ptrTo b1)).put oj.dst (ptrTo b2))) (fun r' a' h' => ⟨r', rfl, h'⟩)
 have hW := xCi (P := P) (ops := l.toArray) (I := xDa B0 w0 L) (C := Rep B0 w0 L) (K := fun a' => ∀ b1 b2, xEt P l.toArray (xDa B0 w0 L) Q (r.filterMap (l.toArray[·]?)) (Rep B0 w0 ((b2, zj) :: (b1, zi) :: L)) ((a'.put oi.dst (ptrTo b1)).put oj.dst (ptrTo b2))) ts l [] 0 a hlen (fun j => by simp) (fun a' ha' => by
  obtain ⟨r', e, h'⟩ := ha'
  rw [htl, List.nil_append, List.filterMap_cons_some hoi, List.filterMap_cons_some hoj] at e
  obtain rfl := (List.cons.inj (List.cons.inj e).2).2
  exact h') hH
 have key := xHl (Q := Q) (n := r.length + 1 + 1) h1 (fun p hp => hp) (xBi 0 ts) (Array.replicate l.toArray.size false) a (fun p hp => by simpa using List.all_eq_true.1 h3 p hp) h2 hW (fun a' ha' => by
  refine ⟨fun h0 => (by rw [h0] at h4; cases h4), fun k hk => ?_⟩
  rw [h4] at hk
  have hk' : k = i ∨ k = j := by simpa using hk
  rcases hk' with rfl | rfl
  ·refine ⟨oi, hoi, .inl ⟨zi, hai, fun b1 => ⟨fun h0 => (by rw [h0] at h5; cases h5), fun m hm' => ?_⟩⟩⟩
   rw [h5] at hm'
   obtain rfl : m = j := by simpa using hm'
   exact ⟨oj, hoj, .inl ⟨zj, haj, fun b2 => tailI r _ _ _ hlt h7 (ha' b1 b2)⟩⟩
  ·refine ⟨oj, hoj, .inl ⟨zj, haj, fun b2 => ⟨fun h0 => (by rw [h0] at h6; cases h6), fun m hm' => ?_⟩⟩⟩
   rw [h6] at hm'
   obtain rfl : m = i := by simpa using hm'
   refine ⟨oi, hoi, .inl ⟨zi, hai, fun b1 => tailI r _ _ _ hlt ?_ ?_⟩⟩
   ·rw [Array.setIfInBounds_comm _ _ (Ne.symm h8)]; exact h7
   ·rw [Rep.swap, ← Act.put_comm a' _ _ hd]; exact ha' b1 b2)
 have := xEv _ _ _ _ _ hR.drew key
 rw [hlen2] at this
 simpa using this
end
section
variable {P : Program} {ops : Array Oper} {B0 : Nat} {w0 : World} {ts : List Nat} {r acc : List Oper} {o : Oper} {a : Act} {K : List Oper → Act → Prop} {C : World → Prop} {Kp : List (Nat × Obj)}
theorem xBx (hw : Region.wanted o (yielded ops a.tmps) = true) {f : FuncId} {xs : List Operand} {us : Array TypeId} (hop : o.op = .call { callee := .value (.func f), args := xs.toArray, argTypes := us }) {vs : List Value} {v : Value} (hx' : evL a xs = some vs)
  (hent : ∀ w, (callFunc f vs.toArray).run P w = .ok (.enter f vs.toArray) w) (hq : ∀ w, Calls P f vs.toArray w fun e w' => e = .returned v ∧ Below w.heap.size w w')
  {a' : Act} (ha : a.put o.dst v = a') (h : xBr P ops (xDa B0 w0 Kp) C K ts r acc a') : xBr P ops (xDa B0 w0 Kp) C K (1 :: ts) (o :: r) acc a :=
 hd_keep hw (fun L w hL hR => by
  have e : (execOp a.eval o).run P w = .ok (.enter f vs.toArray) w := by
   have hx := xDr hx'
   unfold execOp
   simp only [hop, resolve, Deferred.ofValue, Act.eval, Sem.run_bind, Sem.run_pure, Result.andThen_ok, hx]
   have := hent w
   simpa [invoke] using this
  rw [e]
  exact (hq w).mono fun e w' ⟨he, hb⟩ => ⟨he, hR.call hb⟩) ha h
theorem xCh (hw : Region.wanted o (yielded ops a.tmps) = true) {ty : TypeId} {x : Operand} (hop : o.op = .load ty x) {n : Nat} {b : Nat} (hx : a.eval x = .pointer (some ⟨b, 0, none⟩)) (hT : RowT P ty n) {l : List Value} {t : TypeId}
  (hm : (b, Obj.cells l.toArray t) ∈ Kp) (hn : l.length = n) {a' : Act} (ha : a.put o.dst (.agg l.toArray) = a') (h : xBr P ops (xDa B0 w0 Kp) C K ts r acc a') : xBr P ops (xDa B0 w0 Kp) C K (1 :: ts) (o :: r) acc a :=
 hd_keepRow hw hop hx hT hm (by simp [← hn]) hn ha h
end
end
section
section
variable {P : Program} {ops : Array Oper} {rest : List Oper} {o : Oper} {a : Act} {w w0 : World} {Q : Exit → Act → World → Prop} {B0 : Nat} {L : List (Nat × Obj)}
theorem xEu (hw : Region.wanted o (yielded ops a.tmps) = true) (h : ∀ K : Act → World → Prop, (∀ a w, wpList P ops Q rest a w → K a w) → o.wp P a w K Q) : wpList P ops Q (o :: rest) a w :=
 wpList_step fun K hK => by simp only [hw, if_true]; exact h K hK
theorem xIy (hR : Rep B0 w0 L w) (hg : Region.wanted o (yielded ops a.tmps) = true) {ty : TypeId} {x : Operand} (ho : o.op = .load ty x) {n : Nat} {b off : Nat} (hx : a.eval x = .pointer (some ⟨b, off, none⟩)) (hT : RowT P ty n) {l vs : List Value} {t : TypeId}
  (hm : (b, Obj.cells l.toArray t) ∈ L) (hv : (l.drop off).take n = vs) (hn : vs.length = n) (h : wpList P ops Q rest (a.put o.dst (.agg vs.toArray)) w) : wpList P ops Q (o :: rest) a w :=
 xEu hg fun _ hK => by
  unfold Oper.wp execOp
  simp only [ho, hx, Instr.loadAt, Instr.sureAddr, Sem.run_bind, Sem.run_pure, Result.andThen_ok, hR.loadRow (P := P) (ty := ty) hm hv hn]
  exact hK _ _ h
theorem wpList_loadAllG (hR : Rep B0 w0 L w) (hg : Region.wanted o (yielded ops a.tmps) = true) {ty : TypeId} {x : Operand} (ho : o.op = .load ty x) {n : Nat} {b : Nat} (hx : a.eval x = .pointer (some ⟨b, 0, none⟩)) (hT : RowT P ty n) {l : List Value} {t : TypeId}
  (hm : (b, Obj.cells l.toArray t) ∈ L) (hn : l.length = n) (h : wpList P ops Q rest (a.put o.dst (.agg l.toArray)) w) : wpList P ops Q (o :: rest) a w :=
 xIy hR hg ho hx hT hm (by simp [← hn]) hn h
theorem wpList_loadCellG (hR : Rep B0 w0 L w) (hg : Region.wanted o (yielded ops a.tmps) = true) {ty : TypeId} {x : Operand} (ho : o.op = .load ty x) {b off : Nat} (hx : a.eval x = .pointer (some ⟨b, off, none⟩)) (hT : xDt P ty) {l : List Value} {v : Value} {t : TypeId}
  (hm : (b, Obj.cells l.toArray t) ∈ L) (hv : l[off]? = some v) (h : wpList P ops Q rest (a.put o.dst v) w) : wpList P ops Q (o :: rest) a w :=
 xEu hg fun _ hK => by
  unfold Oper.wp execOp
  simp only [ho, hx, Instr.loadAt, Instr.sureAddr, Sem.run_bind, Sem.run_pure, Result.andThen_ok, hR.loadCell (P := P) (ty := ty) hm hv]
  exact hK _ _ h
end
section
variable {P : Program} {ops : Array Oper} {rest : List Oper} {o : Oper} {a : Act} {w w0 : World} {Q : Exit → Act → World → Prop} {B0 : Nat} {L L' : List (Nat × Obj)}
theorem aXq {ty : TypeId} {x : Operand} {n : Nat} {b : Nat} {l : List Value} {t : TypeId} (hR : Rep B0 w0 L w) (h : wpList P ops Q rest (a.put o.dst (.agg l.toArray)) w) (hg : Region.wanted o (yielded ops a.tmps) = true := by exact rfl) (ho : o.op = .load ty x := by exact rfl) (hx : a.eval x = .pointer (some ⟨b, 0, none⟩) := by exact rfl) (hT : RowT P ty n := by first | ((exact inferInstance); done) | fail) (hm : (b, Obj.cells l.toArray t) ∈ L := by first | ((first | with_reducible assumption | repeat (first | exact .head _ | apply List.Mem.tail)); done) | fail) (hn : l.length = n := by first | ((first | rfl | (simp; done)); done) | fail) : wpList P ops Q (o :: rest) a w :=
 wpList_loadAllG hR hg ho hx hT hm hn h
theorem aYq {ty : TypeId} {x : Operand} {b off : Nat} {l : List Value} {v : Value} {t : TypeId} (hR : Rep B0 w0 L w) (h : wpList P ops Q rest (a.put o.dst v) w) (hg : Region.wanted o (yielded ops a.tmps) = true := by exact rfl) (ho : o.op = .load ty x := by exact rfl) (hx : a.eval x = .pointer (some ⟨b, off, none⟩) := by exact rfl) (hT : xDt P ty := by first | ((exact inferInstance); done) | fail) (hm : (b, Obj.cells l.toArray t) ∈ L := by first | ((first | with_reducible assumption | repeat (first | exact .head _ | apply List.Mem.tail)); done) | fail) (hv : l[off]? = some v := by first | ((first | rfl | with_reducible assumption); done) | fail) : wpList P ops Q (o :: rest) a w :=
 wpList_loadCellG hR hg ho hx hT hm hv h
theorem aEr {ty : TypeId} {x : Operand} {n : Nat} {b : Nat} {l : List Value} {t : TypeId} (hR : Rep B0 w0 L w) (h : wpList P ops Q rest (a.put o.dst (.agg l.toArray)) w) (hg : Region.wanted o (yielded ops a.tmps) = true := by exact rfl) (ho : o.op = .load ty x := by exact rfl) (hx : a.eval x = .pointer (some ⟨b, 0, none⟩) := by exact rfl) (hT : RowT P ty n := by first | ((exact inferInstance); done) | fail) (hm : (b, Obj.cells l.toArray t) ∈ L := by first | ((first | with_reducible assumption | repeat (first | exact .head _ | with_reducible assumption | apply List.mem_cons_of_mem)); done) | fail) (hn : l.length = n := by first | ((first | rfl | (simp; done)); done) | fail) : wpList P ops Q (o :: rest) a w :=
 wpList_loadAllG hR hg ho hx hT hm hn h
theorem aFr {ty : TypeId} {x : Operand} {b off : Nat} {l : List Value} {v : Value} {t : TypeId} (hR : Rep B0 w0 L w) (h : wpList P ops Q rest (a.put o.dst v) w) (hg : Region.wanted o (yielded ops a.tmps) = true := by exact rfl) (ho : o.op = .load ty x := by exact rfl) (hx : a.eval x = .pointer (some ⟨b, off, none⟩) := by exact rfl) (hT : xDt P ty := by first | ((exact inferInstance); done) | fail) (hm : (b, Obj.cells l.toArray t) ∈ L := by first | ((first | with_reducible assumption | repeat (first | exact .head _ | with_reducible assumption | apply List.mem_cons_of_mem)); done) | fail) (hv : l[off]? = some v := by first | ((first | rfl | with_reducible assumption); done) | fail) : wpList P ops Q (o :: rest) a w :=
 wpList_loadCellG hR hg ho hx hT hm hv h
theorem aHr {ty : TypeId} {x : Operand} {n : Nat} {b off : Nat} {l vs : List Value} {t : TypeId} (hR : Rep B0 w0 L w) (h : wpList P ops Q rest (a.put o.dst (.agg vs.toArray)) w) (hg : Region.wanted o (yielded ops a.tmps) = true := by exact rfl) (ho : o.op = .load ty x := by exact rfl) (hx : a.eval x = .pointer (some ⟨b, off, none⟩) := by exact rfl) (hT : RowT P ty n := by first | ((exact inferInstance); done) | fail) (hm : (b, Obj.cells l.toArray t) ∈ L := by first | ((first | with_reducible assumption | repeat (first | exact .head _ | with_reducible assumption | apply List.mem_cons_of_mem)); done) | fail) (hv : (l.drop off).take n = vs := by first | ((first | with_reducible assumption | (simp only [kC, kD, kE, kF]; first | done | rfl)); done) | fail) (hn : vs.length = n := by first | ((first | rfl | (simp; done)); done) | fail) : wpList P ops Q (o :: rest) a w :=
 xIy hR hg ho hx hT hm hv hn h
end
end
end Go.Proofs.YtaaahfjpnggkbaaGreatDoor
