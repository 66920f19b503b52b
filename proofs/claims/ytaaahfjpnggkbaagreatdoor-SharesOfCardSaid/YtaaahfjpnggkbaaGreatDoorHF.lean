import Derived.WalkKit
import Derived.OwnWalkIn
import Derived.Lib.AppendZerosOnto
import Derived.Test.YtaaahfjpnggkbaaGreatDoorHA
import Derived.RangeFuncNested
import Derived.RangeFuncBound
import Derived.RangeFuncCalls
import Derived.RangeFuncLeaves
import Derived.RangeFuncBox
import Derived.RangeFuncFrom
import Derived.Shelf.Abstract
import Derived.Shelf.RegionOpen
import Derived.TacticsInMore
import Derived.LoopNIn
import Derived.LoopIn
import Derived.Deep.RegionWith
import Derived.Test.YtaaahfjpnggkbaaGreatDoorHWide
set_option linter.unusedSimpArgs false
set_option linter.unusedVariables false
set_option maxRecDepth 100000
set_option maxHeartbeats 20000000
namespace Go.Proofs.YtaaahfjpnggkbaaGreatDoor
open Go.RowKit
section
theorem Rep.grown {B0 : Nat} {w0 : World} {L : List (Nat × Obj)} {w w' : World} {row : Option Nat} (h : Rep B0 w0 L w) (hg : w.grownBy w' row) (hr : ∀ r, row = some r → B0 ≤ r ∧ ∀ p, p ∈ L → p.1 ≠ r) : Rep B0 w0 L w' :=
 ⟨h.below.grown hg h.le (fun k hk => (hr k hk).1), by have := hg.size; have := h.le; omega, fun p hp => ⟨(h.own p hp).1, by
  have hp1 := (h.own p hp).2
  have hlt : p.1 < w.heap.size := (Array.getElem?_eq_some_iff.1 hp1).1
  rw [hg.block p.1 hlt (fun e => (hr p.1 e.symm).2 p hp rfl)]
  exact hp1⟩, h.uniq⟩
theorem Rep.add {B0 : Nat} {w0 : World} {L : List (Nat × Obj)} {w : World} (h : Rep B0 w0 L w) {b : Nat} {o : Obj} (hb : B0 ≤ b) (ho : w.heap[b]? = some o) (hn : ∀ p, p ∈ L → p.1 ≠ b) : Rep B0 w0 ((b, o) :: L) w :=
 ⟨h.below, h.le, fun p hp => by
  rcases List.mem_cons.1 hp with rfl | hp
  ·exact ⟨hb, ho⟩
  ·exact h.own p hp, by
  rw [List.map_cons, List.nodup_cons]
  refine ⟨fun hm => ?_, h.uniq⟩
  obtain ⟨p, hp, e⟩ := List.mem_map.1 hm
  exact hn p hp e⟩
theorem info_u64 : (Tryz.prog.info? 22).map (fun i => (i.zero, i.size, i.bytes)) = some (some (.int .u64 0), 1, 8) := by kernel_rfl
theorem grow_nil (n : Nat) (h0 : 0 < n) (hn : n ≤ 1000000) (w : World) : Calls Tryz.prog 242 #[.slice none 0 0, .int .i64 (n : Int)] w fun e w' =>
  ∃ v, e = .returned v ∧ w'.ownsRow w.heap.size 22 1 v 0 [] ∧ w.grownBy w' none := by
 obtain ⟨i0, hi, hz0, hz1, hz2⟩ := info_parts info_u64
 have z25 : ∀ w, (Go.sizeOf 22).run Tryz.prog w = .ok i0.size w := fun w => by simp [Go.sizeOf, typeInfo, hi]
 have hrz : ∀ ty, (Builtin.append_ #[256, 3] ty #[.slice none 0 0, .int .i64 (n : Int)]).run Tryz.prog w =
   .ok (.slice (some ⟨w.heap.size, 0, none⟩) n (grownCap w n 0 22)) (w.drew.alloc (.cells (#[] ++ Builtin.zeroCells (Value.int .u64 0).cells n ++ Builtin.zeroCells (Value.int .u64 0).cells (grownCap w n 0 22 - n)) 22)) := fun ty => by
  have h := Lib.run_append_grow_zeros w 256 3 ty 22 i0 (.int .u64 0) .i64 .i64 Tryz.underlying256 Tryz.underlying3 hi hz0 none 0 0 [] (run_firstCells_none w.drew i0.size 0 0 0) n h0 (by omega) (by omega) (by omega) (by rw [hz2]; omega)
   (by rw [Nat.zero_add]; exact growslice_fits (by omega) (by rw [hz2]; omega))
  rw [Nat.zero_add] at h
  exact h
 have hGn : n ≤ grownCap w n 0 22 := grownCap_ge w _ _ _
 have hGm : grownCap w n 0 22 ≤ maxLen := grownCap_le_maxLen w n 0 22 (by unfold maxLen; omega)
 generalize grownCap w n 0 22 = G at *
 have hG63 : G ≤ 9223372036854775807 := by unfold maxLen at hGm; omega
 have own : (w.drew.alloc (.cells (#[] ++ Builtin.zeroCells (Value.int .u64 0).cells n ++ Builtin.zeroCells (Value.int .u64 0).cells (G - n)) 22)).ownsRow w.heap.size 22 1 (.slice (some ⟨w.heap.size, 0, none⟩) 0 G) 0 [] := by
  refine ⟨rfl, .inr ⟨w.heap.size, G, _, rfl, Nat.le_refl _, heap_alloc_new w.drew _, Nat.zero_le _, hGm, ?_, by simp⟩⟩
  simp only [Array.size_append, size_zeroCells]
  have : (Value.int .u64 0).cells.size = 1 := rfl
  rw [this]
  simp
  omega
 have gr : w.grownBy (w.drew.alloc (.cells (#[] ++ Builtin.zeroCells (Value.int .u64 0).cells n ++ Builtin.zeroCells (Value.int .u64 0).cells (G - n)) 22)) none :=
  ⟨rfl, rfl, rfl, by simp, fun k hk _ => heap_alloc_old w.drew _ hk⟩
 generalize w.drew.alloc (.cells (#[] ++ Builtin.zeroCells (Value.int .u64 0).cells n ++ Builtin.zeroCells (Value.int .u64 0).cells (G - n)) 22) = w1 at *
 have h1 : ¬ ((n : Int) < 0) := by omega
 have h2 : (n : Int) > 0 := by omega
 have h3 : (n : Int) ≤ 9223372036854775807 := by omega
 clear z25
 replace own := Held.mk own
 replace gr := Held.mk gr
 go_enter Tryz.func242, Tryz.ntmps242
 go_wp2_with (at_builtin; refine Lib.wpList_append_run _ rfl _ _ _ _ rfl _ _ rfl rfl _ _ (hrz _) ?_)
 all_goals (go_ret; exact ⟨_, rfl, own.out, gr.out⟩)
theorem cell_add {w : World} {b j : Nat} {u : Value} (h : w.cell? ⟨b, j, none⟩ = some u) : w.cell? ((⟨b, 0, none⟩ : Addr).add j) = some u := by
 have e : ((⟨b, 0, none⟩ : Addr).add j) = ⟨b, j, none⟩ := by
  simp [Addr.add]
  omega
 rw [e]; exact h
instance inConcat1 : xDp Tryz.prog 256 := .mk' (by kernel_rfl) (by kernel_rfl)
theorem concat_two {B0 : Nat} {w0 : World} {L : List (Nat × Obj)} {w : World} (hR : Rep B0 w0 L w) (bb b1 b2 : Nat) (xs ys : List Value) (tb t1 t2 : TypeId)
  (mb : (bb, Obj.cells (List.toArray [Value.slice (some ⟨b1, 0, none⟩) 4 4, Value.slice (some ⟨b2, 0, none⟩) 4 4]) tb) ∈ L) (m1 : (b1, Obj.cells xs.toArray t1) ∈ L) (m2 : (b2, Obj.cells ys.toArray t2) ∈ L)
  (hx : xs.length = 4) (hy : ys.length = 4) (ox : ∀ u ∈ xs, u.oneCell' = true) (oy : ∀ u ∈ ys, u.oneCell' = true) :
  Calls Tryz.prog 237 #[.slice (some ⟨bb, 0, none⟩) 2 2] w fun e w' =>
   ∃ g cap cur, e = .returned (.slice (some ⟨g, 0, none⟩) 8 cap) ∧ Rep B0 w0 ((g, .cells cur 22) :: L) w' ∧ cur.toList.take 8 = xs ++ ys := by
 obtain ⟨i0, hi, hz0, hz1, hz2⟩ := info_parts info_u64
 have hlt : ∀ p, p ∈ L → p.1 < w.heap.size := fun p hp => hR.lt hp
 have hn0 : B0 ≤ w.heap.size := hR.le
 have cg := fun w => grow_nil 8 (by decide) (by decide) w
 go_enter Tryz.func237, Tryz.ntmps237
 go_wp2_with (fail)
 refine wp_loop_rounds 3 ?_
 rw [rounds_succ]
 go_wp2_with (refine' aGq hR ?_)
 rw [rounds_succ]
 go_wp2_with (refine' aGq hR ?_)
 rw [rounds_succ]
 go_wp2_with (go_at_call 242; refine (cg _).mono ?_; rintro e w1 ⟨v1, rfl, hO, hg⟩)
 replace hR := hR.grown hg (fun _ h => by cases h)
 have hsz := hg.size
 clear hg cg
 refine wp_loop_rounds 3 ?_
 rw [rounds_succ]
 go_wp2_with (first | (refine' aGq hR ?_) | (at_builtin; refine wpList_append_own _ rfl _ _ 256 rfl w.heap.size 22 i0 (.int .u64 0) 1 8 Tryz.underlying256 hi hz0 hz1 hz2 rfl (by decide) _ _ _ rfl hO ⟨b1, 0, none⟩ 4 4 xs rfl hx (fun j u hj => cell_add (hR.cell (off := j) m1 hj)) ox (by unfold maxLen; omega) (by omega) hsz ?_; intro v2 w2 hO2 hg2 _))
 replace hR := hR.grown hg2 (fun r hr => ⟨by have := (hO.lt r hr).1; omega, fun p hp e => by have := hlt p hp; have := (hO.lt r hr).1; omega⟩)
 replace hsz := Nat.le_trans hsz hg2.size
 clear hg2 hO
 have hO := hO2
 clear hO2
 rw [rounds_succ]
 go_wp2_with (first | (refine' aGq hR ?_) | (at_builtin; refine wpList_append_own _ rfl _ _ 256 rfl w.heap.size 22 i0 (.int .u64 0) 1 8 Tryz.underlying256 hi hz0 hz1 hz2 rfl (by decide) _ _ _ rfl hO ⟨b2, 0, none⟩ 4 4 ys rfl hy (fun j u hj => cell_add (hR.cell (off := j) m2 hj)) oy (by unfold maxLen; omega) (by omega) hsz ?_; intro v3 w3 hO3 hg3 _))
 replace hR := hR.grown hg3 (fun r hr => ⟨by have := (hO.lt r hr).1; omega, fun p hp e => by have := hlt p hp; have := (hO.lt r hr).1; omega⟩)
 clear hg3 hO
 rw [rounds_succ]
 go_wp2_with (fail)
 go_ret
 obtain ⟨hl, hc⟩ := hO3
 rcases hc with ⟨_, h⟩ | ⟨g, cap, cur, rfl, hb, hh, _, _, _, ht⟩
 ·exact absurd h (by decide)
 ·exact ⟨g, cap, cur, rfl, hR.add (by omega) hh (fun p hp e => by have := hlt p hp; omega), by simpa using ht⟩
end
section
attribute [local go_sem] Oper.semAt_some
abbrev Word := { n : Nat // n < 18446744073709551616 }
def dn (len : Nat) (zs : Nat → Word) (m : Nat) : List (Int × Word) := (List.range (len - m)).map fun k => (((len - 1 - k : Nat) : Int), zs (len - 1 - k))
theorem dn_top (len : Nat) (zs : Nat → Word) : dn len zs len = [] := by simp [dn]
theorem dn_succ (len : Nat) (zs : Nat → Word) {m : Nat} (h : m < len) : dn len zs m = dn len zs (m + 1) ++ [((m : Int), zs m)] := by
 unfold dn
 rw [show len - m = (len - (m + 1)) + 1 by omega, List.range_succ, List.map_append, List.map_cons, List.map_nil, show len - 1 - (len - (m + 1)) = m by omega]
theorem dn_length (len : Nat) (zs : Nat → Word) (m : Nat) : (dn len zs m).length = len - m := by simp [dn]
def keep2 (b1 b2 : Nat) (A B : World) : Prop := ∀ p : Addr, p.block = b1 ∨ p.block = b2 → B.cell? p = A.cell? p
theorem keep2_t {b1 b2 : Nat} {A B C : World} (h1 : keep2 b1 b2 A B) (h2 : keep2 b1 b2 B C) : keep2 b1 b2 A C := fun p hp => (h2 p hp).trans (h1 p hp)
theorem keep2_b {b1 b2 : Nat} {w : World} (h1 : b1 < w.heap.size) (h2 : b2 < w.heap.size) (W : World) (l : Nat) (o o' : Obj) (hl : w.heap.size ≤ l) (_ : W.heap[l]? = some o) (_ : o.isCells = false) (_ : o.isWalk = false) : keep2 b1 b2 W (W.putObj l o') := fun p hp =>
 World.cell?_of_block (World.putObj_heap_other (fun e => by rcases hp with h | h <;> omega))
theorem back1_in (F : Fence) (n : Nat) (h7 : F.fn 243) (hro : F.round = none) (hn : 1 ≤ n) (l Bs b len cap : Nat) (zs : Nat → Word) (hlen : len ≤ 1000000) (J Jx : List (Int × Word) → World → Prop)
  (hY : ∀ pre x W, J pre W → pre.length < len → YieldAt F (n - 1) Tryz.prog l #[.int .i64 x.1, .int .u64 (x.2.1 : Int)] W fun e W' =>
   (e = .returned (.bool true) ∧ J (pre ++ [x]) W' ∧ keep2 b Bs W W') ∨ (e = .returned (.bool false) ∧ Jx (pre ++ [x]) W'))
  (W : World) (hBs : W.cell? ⟨Bs, 0, none⟩ = some (.slice (some ⟨b, 0, none⟩) len cap)) (hc : ∀ j, j < len → W.cell? ⟨b, j, none⟩ = some (.int .u64 ((zs j).1 : Int))) (h0 : J [] W) :
  CallsIn F n Tryz.prog 243 #[.func (.yield l) #[] #[], .pointer (some ⟨Bs, 0, none⟩)] W fun e W' => (∃ v, e = .returned v) ∧
   ((∃ ys, ys = dn len zs 0 ∧ J ys W') ∨ (∃ pre, True ∧ Jx pre W')) := by
 refine callsIn_of_wp Tryz.func243 rfl h7 ?_ hro
 simp only [Tryz.ntmps243, List.size_toArray, List.length_cons, List.length_nil, Nat.reduceAdd, Nat.reduceSub, Array.replicate_succ, Array.replicate_zero, List.push_toArray, List.append_toArray, List.nil_append, List.cons_append]
 gi_wp2
 gi_loopw [3] (fun i wr => ∃ m : Nat, m ≤ len ∧ i = .int .i64 ((m : Int) - 1) ∧ J (dn len zs m) wr ∧ keep2 b Bs W wr)
  (fun i _ => (intOf i + 1).toNat)
 case atStart => exact ⟨len, Nat.le_refl _, by simp, by rw [dn_top]; exact h0, fun _ _ => rfl⟩
 case round =>
  obtain ⟨m, hm, rfl, hJs, hnx⟩ := hrel
  have hbox : wr.cell? ⟨Bs, 0, none⟩ = some (.slice (some ⟨b, 0, none⟩) len cap) := (hnx ⟨Bs, 0, none⟩ (.inr rfl)).trans hBs
  cases m with
  | zero =>
   gi_wp2
   go_end0
   exact ⟨⟨_, rfl⟩, .inl ⟨_, rfl, hJs⟩⟩
  | succ m =>
   have hcx : wr.cell? ⟨b, m, none⟩ = some (.int .u64 ((zs m).1 : Int)) := (hnx ⟨b, m, none⟩ (.inl rfl)).trans (hc m (by omega))
   obtain ⟨fn, tmps, assign, body, hy, hR⟩ := hY _ ((m : Int), zs m) wr hJs (by rw [dn_length]; omega)
   dsimp only at hy
   rw [show ((m + 1 : Nat) : Int) - 1 = (m : Int) by omega]
   have hm1 : (m : Int) < (len : Int) := by omega
   have hm2 : 0 ≤ (m : Int) := by omega
   gi_wp2
   refine hR.mono ?_
   rintro e W3 (⟨rfl, hJ3, hk3⟩ | ⟨rfl, hJx3⟩)
   ·gi_wp2
    go_roundw
    case rel => exact ⟨m, by omega, rfl, by rw [dn_succ len zs (by omega)]; exact hJ3, keep2_t hnx hk3⟩
    case measure => simp [intOf]
   ·gi_wp2
    refine bodyPost_ret (results_none rfl _ _ _) rfl ?_
    exact ⟨⟨_, rfl⟩, .inr ⟨_, trivial, hJx3⟩⟩
theorem back_stops (F : Fence) (n : Nat) (h7 : F.fn 243) (hro : F.round = none) (hn : 1 ≤ n) (Bs b len cap : Nat) (zs : Nat → Word) (hlen : len ≤ 1000000) (w : World) (hb : b < w.heap.size) (hBn : Bs < w.heap.size)
  (hBs : w.cell? ⟨Bs, 0, none⟩ = some (.slice (some ⟨b, 0, none⟩) len cap)) (hc : ∀ j, j < len → w.cell? ⟨b, j, none⟩ = some (.int .u64 ((zs j).1 : Int))) :
  SeqStopsK F n Tryz.prog 243 #[.pointer (some ⟨Bs, 0, none⟩)] (fun x : Int × Word => #[Value.int .i64 x.1, Value.int .u64 (x.2.1 : Int)]) (keep2 b Bs) (fun ys => ys = dn len zs 0) (fun _ => True) len w := fun l J Jx W hW _ _ hY h0 =>
 back1_in F n h7 hro hn l Bs b len cap zs hlen J Jx hY W ((hW.cell (p := ⟨Bs, 0, none⟩) (by exact hBn)).trans hBs) (fun j hj => (hW.cell (p := ⟨b, j, none⟩) (by exact hb)).trans (hc j hj)) h0
theorem backward_any (a : Option Addr) (len cap : Nat) (w : World) :
  Calls Tryz.prog 238 #[.slice a len cap] w fun e w' => e = .returned (.func (.func 243) #[] #[.pointer (some ⟨w.heap.size, 0, none⟩)]) ∧ w' = w.alloc (.cells #[.slice a len cap] 256) := by
 go_enter Tryz.func238, Tryz.ntmps238
 go_wp2
 go_ret
 exact ⟨rfl, rfl⟩
end
section
attribute [local go_sem] Oper.semAt_some
theorem region_slice {P : Program} {c : Code} {Q : Exit → Act → World → Prop} {l : List Value} {d : List Deferred} {w w0 : World} {B0 : Nat} {L : List (Nat × Obj)} (hR : Rep B0 w0 L w) (mask : List Bool) (t : TypeId) (ys : List Value)
  (h1 : ∀ Q' : Act → World → Prop, Held (∀ g cap cur tm w', xGq mask (l.set 8 (.slice (some ⟨g, 0, none⟩) 8 cap)) tm → Rep B0 w0 ((g, .cells cur t) :: L) w' → cur.toList.take 8 = ys → Q' ⟨tm.toArray, d⟩ w') → c.wp P (Exit.then Q' fun _ _ _ => False) ⟨l.toArray, d⟩ w)
  (h2 : ∀ g cap cur tm w', xGq mask (l.set 8 (.slice (some ⟨g, 0, none⟩) 8 cap)) tm → Rep B0 w0 ((g, .cells cur t) :: L) w' → cur.toList.take 8 = ys → Q .normal ⟨tm.toArray, d⟩ w') : c.wp P Q ⟨l.toArray, d⟩ w := by
 refine Code.wp_mono (fun e a w' h => ?_) (h1 (fun a w' => Q .normal a w') ⟨h2⟩)
 cases e <;> first | exact h | exact h.elim
theorem KeepsOthers.below {W W' : World} (h : Below W.heap.size W W') : KeepsOthers W W' :=
 ⟨h.size, fun k o hk _ => by rw [h.block k (Array.getElem?_eq_some_iff.1 hk).1]; exact hk⟩
noncomputable def rstep : Nat → Nat → Nat → Nat := opq fun m r x => (r * 18446744073709551616 + x) % m
theorem xHw (m r x : Nat) : rstep m r x = (r * 18446744073709551616 + x) % m := by unfold rstep; rw [xBs]
noncomputable def rr (m : Nat) (pre : List (Int × Word)) : Nat := pre.foldl (fun r x => rstep m r x.2.1) 0
theorem rr_snoc (m : Nat) (pre : List (Int × Word)) (x : Int × Word) : rr m (pre ++ [x]) = rstep m (rr m pre) x.2.1 := by
 unfold rr
 rw [List.foldl_append, List.foldl_cons, List.foldl_nil]
theorem rr_lt {m : Nat} (hm : 0 < m) : ∀ pre : List (Int × Word), rr m pre < m := fun pre => by
 rcases List.eq_nil_or_concat pre with rfl | ⟨p, x, rfl⟩
 ·exact hm
 ·rw [List.concat_eq_append, rr_snoc, xHw]; exact Nat.mod_lt _ hm
theorem Rep.ownFrom {B0 : Nat} {w0 : World} {L : List (Int × Word) → List (Nat × Obj)} {C : Nat} (hC : B0 ≤ C) (hL : ∀ pre p, p ∈ L pre → p.2.isCells = true) : OwnFrom C (fun pre W => Rep B0 w0 (L pre) W) := fun pre W W' row h hg hr =>
 h.grown hg fun r e => ⟨by have := (hr r e).1; omega, fun p hp ep => by
  obtain ⟨_, o, ho, hf⟩ := hr r e
  have h1 := (h.own p hp).2
  have h2 := hL pre p hp
  rw [ep, ho] at h1
  cases h1
  rw [hf] at h2
  cases h2⟩
theorem Rep.putHead {B0 : Nat} {w0 : World} {p : Nat × Obj} {L : List (Nat × Obj)} {w : World} (h : Rep B0 w0 (p :: L) w) (o : Obj) : Rep B0 w0 L (w.putObj p.1 o) :=
 h.tail.grown (grownBy_putObj' w p.1 o) fun r e => by
  cases e
  exact ⟨(h.own p (.head _)).1, fun q hq e => (List.nodup_cons.1 h.uniq).1 (List.mem_map.2 ⟨q, hq, e⟩)⟩
theorem xEq (m v x : Nat) : rstep m (v % m) x = (v * 18446744073709551616 + x) % m := by
 rw [xHw, Nat.add_mod, Nat.mul_mod, Nat.mod_mod, ← Nat.mul_mod, ← Nat.add_mod]
theorem horner8 (W l0 l1 l2 l3 h0 h1 h2 h3 : Nat) : (((((((0 * W + h3) * W + h2) * W + h1) * W + h0) * W + l3) * W + l2) * W + l1) * W + l0 =
  (h0 + W * (h1 + W * (h2 + W * h3))) * (W * W * W * W) + (l0 + W * (l1 + W * (l2 + W * l3))) := by grind
def wz (low high j : Nat) : Word := if j < 4 then ⟨w64 low j, xDb _ _⟩ else ⟨w64 high (j - 4), xDb _ _⟩
theorem words_ex (low high m : Nat) (hl : low < B) (hh : high < B) (h0 : m ≠ 0) (cur : Array Value) (hcur : cur.toList.take 8 = nl low ++ nl high) :
  ∃ zs : Nat → Word, (∀ j, j < 8 → cur[j]? = some (.int .u64 ((zs j).1 : Int))) ∧ rr m (dn 8 zs 0) = widN low high m := by
 refine ⟨wz low high, fun j hj => ?_, ?_⟩
 ·have e : cur[j]? = (nl low ++ nl high)[j]? := by
   rw [← hcur, List.getElem?_take, if_pos hj, Array.getElem?_toList]
  rw [e]
  unfold nl
  simp only [xFm]
  have : j = 0 ∨ j = 1 ∨ j = 2 ∨ j = 3 ∨ j = 4 ∨ j = 5 ∨ j = 6 ∨ j = 7 := by omega
  rcases this with rfl | rfl | rfl | rfl | rfl | rfl | rfl | rfl <;> rfl
 ·have ed : dn 8 (wz low high) 0 = [(7, wz low high 7), (6, wz low high 6), (5, wz low high 5), (4, wz low high 4), (3, wz low high 3), (2, wz low high 2), (1, wz low high 1), (0, wz low high 0)] := rfl
  rw [ed]
  unfold rr
  simp only [List.foldl_cons, List.foldl_nil]
  have z : ∀ j, j < 4 → (wz low high j).1 = w64 low j := fun j hj => by unfold wz; rw [if_pos hj]
  have z' : ∀ j, j < 4 → (wz low high (j + 4)).1 = w64 high j := fun j hj => by unfold wz; rw [if_neg (by omega)]; rfl
  rw [z 0 (by decide), z 1 (by decide), z 2 (by decide), z 3 (by decide), z' 0 (by decide), z' 1 (by decide), z' 2 (by decide), z' 3 (by decide)]
  rw [xHw m 0, xEq, xEq, xEq, xEq, xEq, xEq, xEq, horner8, ← B_eq]
  have eh := xEz high
  have el := xEz low
  rw [Nat.mod_eq_of_lt hh] at eh
  rw [Nat.mod_eq_of_lt hl] at el
  unfold ofW at eh el
  rw [eh, el, xFn, if_neg h0]
theorem range_words {Q : Exit → Act → World → Prop} {B0 : Nat} {w0 : World} {l : List Value} {w : World} {ac bc : Code} (zs : Nat → Word) (Bs b cap : Nat) (L : List (Int × Word) → List (Nat × Obj))
  (hg : (Act.mk l.toArray []).eval (.tmp 27) = .func (.func 243) #[] #[.pointer (some ⟨Bs, 0, none⟩)])
  (hR : Rep B0 w0 (L []) w) (hL : ∀ pre p, p ∈ L pre → p.2.isCells = true) (mB : (Bs, Obj.cells (List.toArray [Value.slice (some ⟨b, 0, none⟩) 8 cap]) 256) ∈ L []) (mb : ∃ cur t, (b, Obj.cells cur t) ∈ L [] ∧ ∀ j, j < 8 → cur[j]? = some (.int .u64 ((zs j).1 : Int)))
  (hassign : ∀ (k : Nat) (x : Int × Word) (W : World) (K : Act → World → Prop), K ⟨(((l.set 28 (.int .i64 x.1)).set 29 (.int .u64 (x.2.1 : Int))).set 10 (.int .u64 (x.2.1 : Int))).toArray, []⟩ W →
   ac.wpIn (Fence.wide.inRound k) 3 Tryz.prog (Exit.then K (fun _ _ _ => False)) { tmps := ((#[28, 29] : Array Tmp).zip (#[Value.int .i64 x.1, Value.int .u64 (x.2.1 : Int)])).foldl (fun t (p, v) => t.setIfInBounds p v) l.toArray, defers := [] } W)
  (hbody : ∀ (k : Nat) (pre : List (Int × Word)) (x : Int × Word) (W : World), Rep B0 w0 (L pre) W → pre.length < 8 →
   bc.wpIn (Fence.wide.inRound k) 3 Tryz.prog (ownPostK (keep2 b Bs) (fun pre W => Rep B0 w0 (L pre) W) (fun _ _ _ => False) (pre ++ [x]) W) ⟨(((l.set 28 (.int .i64 x.1)).set 29 (.int .u64 (x.2.1 : Int))).set 10 (.int .u64 (x.2.1 : Int))).toArray, []⟩ W)
  (hdone : ∀ (D : Nat) (W : World), Rep B0 w0 ((D, .deferred (some [])) :: L (dn 8 zs 0)) W → Q .normal ⟨l.toArray, [{ target := .collected D, args := #[] }]⟩ W) :
  (Code.rangeFunc (.tmp 27) #[28, 29] ac bc).wp Tryz.prog Q ⟨l.toArray, []⟩ w := by
 refine (wpIn_wide (n := 5)).1 ?_
 have lB := hR.lt mB
 obtain ⟨cur, t, mb, hcur⟩ := mb
 have lb := hR.lt mb
 refine wpIn_rangeFunc_ownF rfl (by decide) (gf := 243) (lb := #[.pointer (some ⟨Bs, 0, none⟩)]) hg trivial (fun args w => xAi Tryz.func243 (by kernel_rfl) (by kernel_rfl) args w)
  (back_stops Fence.wide 4 trivial rfl (by decide) Bs b 8 cap zs (by decide) w lb lB (hR.cell (off := 0) mB rfl) (fun j hj => hR.cell (l := cur.toList) (off := j) (by simpa using mb) (by simpa using hcur j hj)))
  keep2_t (keep2_b lb lB) (Below.refl _ _) (fun _ => rfl) (fun pre W => Rep B0 w0 (L pre) W) (fun _ _ _ => False) (Rep.ownFrom hR.le hL) (fun _ _ _ _ _ h _ _ => h) hR _ hassign hbody ?done ?stop
 case done =>
  rintro D ys W hD rfl hW hK
  exact hdone D W (hW.add (by have := hR.le; omega) hK (fun p hp e => by
   have h1 := (hW.own p hp).2
   have h2 := hL _ p hp
   rw [e, hK] at h1
   rw [← Option.some.inj h1] at h2
   cases h2))
 case stop =>
  rintro D c pre W _ _ h
  exact h.elim
theorem wide_short (low high m : Nat) (hl : low < B) (hh : high < B) (h0 : m ≠ 0) (hs : m < 18446744073709551616) (w : World) : Calls Tryz.prog 227 #[num low, num high, num m] w fun e w' =>
  e = .returned (.tuple #[num (widN low high m), .int .i64 0]) ∧ Below w.heap.size w w' := by
 have hm : m < B := lt_B hs
 have z := xDq hm xEy h0
 have hR := Rep.init w
 have ox : ∀ a : Nat, ∀ u ∈ nl a, u.oneCell' = true := fun a u hu => by
  unfold nl at hu
  simp only [List.mem_cons, List.not_mem_nil, or_false] at hu
  rcases hu with rfl | rfl | rfl | rfl <;> rfl
 refine (callsIn_wide (n := 5)).1 ?_
 refine callsIn_of_wp_marks Tryz.func227 rfl trivial ?_ rfl
 simp only [Tryz.ntmps227, List.size_toArray, List.length_cons, List.length_nil, Nat.reduceAdd, Nat.reduceSub, Array.replicate_succ, Array.replicate_zero, List.push_toArray, List.append_toArray, List.nil_append, List.cons_append]
 refine wpIn_wide.2 ?_
 go_wp2_with (first | (refine' aAq hR ?_; clear hR; intro blk w hR) | (refine' aBq hR ?_; clear hR; intro blk w hR) | (refine' aEq hR ?_) | (go_at_call 228; refine (xHr m hm _).mono ?_; rintro e w ⟨rfl, hb⟩; replace hR := hR.call hb; clear hb))
 refine' region_slice hR (false :: false :: false :: false :: false :: false :: false :: false :: false :: false :: false :: false :: false :: false :: false :: false :: false :: false :: false :: false :: false :: false :: true :: true :: true :: true :: false :: false :: false :: false :: false :: false :: false :: false :: false :: false :: false :: false :: false :: false :: false :: false :: false :: false :: false :: false :: false :: false :: false :: false :: false :: false :: false :: false :: false :: false :: false :: false :: false :: false :: false :: false :: false :: []) 22 (nl low ++ nl high) ?h1 ?h2
 case h1 =>
  intro Q' hQ'
  rename_i K0 k0
  clear k0
  go_region_with (go_at_call 237; refine (concat_two (hR.alloc _).drew _ _ _ _ _ _ _ _ (List.Mem.head _) (mT _ (mT _ (mT _ (mT _ (List.Mem.head _))))) (mT _ (mT _ (mT _ (List.Mem.head _)))) rfl rfl (ox _) (ox _)).mono ?_; rintro e w1 ⟨g, cap, cur, rfl, hR1, hcur⟩)
  all_goals exact hQ'.out g cap cur _ _ (xAf rfl rfl rfl) hR1.second hcur
 case h2 =>
  clear hR
  rename_i b3 _ b4 _ b5 _ _ K1 k1 K0 k0
  intro g cap cur tm w ht hR hcur
  repeat (first | (obtain ⟨x, tm', e, ht'⟩ := xAc ht; clear ht; subst e; have ht := ht'; clear ht') | (obtain ⟨tm', e, ht'⟩ := xAa ht; clear ht; subst e; have ht := ht'; clear ht'))
  obtain rfl := xAe ht
  clear ht
  go_wp2_with (go_at_call 238; refine (backward_any _ _ _ _).mono ?_; rintro e w1 ⟨rfl, rfl⟩; have hBox := hR.alloc (.cells (List.toArray [Value.slice (some ⟨g, 0, none⟩) 8 cap]) 256); clear hR)
  rename_i K2 k2
  obtain ⟨zs, hzs, hrr⟩ := words_ex low high m hl hh h0 cur hcur
  refine range_words zs w.heap.size g cap (fun pre => [(w.heap.size, Obj.cells (List.toArray [Value.slice (some ⟨g, 0, none⟩) 8 cap]) 256), (g, Obj.cells cur 22), (blk, Obj.cells (List.toArray [Value.int .u64 (rr m pre : Int), .int .u64 0, .int .u64 0, .int .u64 0]) 24), (b5, Obj.cells (nl m).toArray 24), (b4, Obj.cells (nl high).toArray 24), (b3, Obj.cells (nl low).toArray 24)])
   rfl hBox ?hL (List.Mem.head _) ⟨cur, _, mT _ (List.Mem.head _), hzs⟩ ?hassign ?hbody ?hdone
  case hL =>
   intro pre p hp
   simp only [List.mem_cons, List.not_mem_nil, or_false] at hp
   rcases hp with rfl | rfl | rfl | rfl | rfl | rfl <;> rfl
  case hassign =>
   clear k1 k2
   intro k x W K hK
   simp only [List.set_cons_succ, List.set_cons_zero] at hK
   gi_wp2
   exact hK
  case hbody =>
   clear k1 k2 hBox
   intro k pre x W hR _
   simp only [List.set_cons_succ, List.set_cons_zero]
   have hrl := rr_lt (by omega : 0 < m) pre
   have hd := fun w => xGo (rr m pre) x.2.1 m hrl hs x.2.2 w
   rw [← xHw, ← rr_snoc] at hd
   have hsn : rr m (pre ++ [x]) < m := rr_lt (by omega) _
   have em : wd m 0 = (m : Int) := by
    rw [xFm]; unfold w64; omega
   have c1 := hR.cell (off := 0) (mT _ (mT _ (List.Mem.head _))) rfl
   have c2 := hR.cell (off := 0) (mT _ (mT _ (mT _ (List.Mem.head _)))) rfl
   rw [em] at c2
   have hn1 : 1 ≤ 5 - 1 - 1 := by decide
   generalize hr' : rr m (pre ++ [x]) = r' at *
   generalize rr m pre = r at *
   gi_wp2_with (refine ⟨trivial, ?_⟩; gi_at_call 229; refine (CallsIn.inRound k (callsIn_wide.2 (hd _))).mono ?_; rintro e W2 ⟨rfl, hb⟩; have hR2 := hR.call hb; have c3 := hR2.cell (off := 0) (mT _ (mT _ (List.Mem.head _))) rfl; have c4 := hR2.thaw (mT _ (mT _ (List.Mem.head _))) ⟨blk, 0, none⟩ rfl)
   have hF := (hR2.storeCells (off := 0) (vs := [Value.int .u64 (r' : Int)]) (l' := [Value.int .u64 (r' : Int), .int .u64 0, .int .u64 0, .int .u64 0]) (xBq.tail (xBq.tail xBq.head)) (by simp) rfl).1
   refine ⟨(KeepsOthers.below hb).trans (KeepsOthers.setCell _ _ _), fun p hp => World.cell?_of_block ?_, ?_⟩
   ·rcases hp with h | h
    ·rw [h]
     exact (hF.own _ (mT _ (List.Mem.head _))).2.trans (hR.own _ (mT _ (List.Mem.head _))).2.symm
    ·rw [h]
     exact (hF.own _ (List.Mem.head _)).2.trans (hR.own _ (List.Mem.head _)).2.symm
   ·show Rep _ _ [_, _, (blk, Obj.cells (List.toArray [Value.int .u64 (rr m (pre ++ [x]) : Int), _, _, _]) _), _, _, _] _
    rw [hr']
    exact hF
  case hdone =>
   clear hBox
   intro D W hR
   rw [hrr] at hR
   go_wp2_with (first | (refine' aEq hR ?_) | (refine' aFq hR ?_; clear hR; intro w hR))
   refine ⟨by simp, .inl ⟨_, _, rfl, run_takeDeferred (hR.own _ (List.Mem.head _)).2, ?_⟩⟩
   have hR3 := hR.putHead (.deferred none)
   refine' ⟨_, xAh Tryz.results227 rfl (hR3.loadAll (P := Tryz.prog) (ty := 24) (mT _ (mT _ (List.Mem.head _))) rfl), ?_, hR3.below⟩
   have hw : widN low high m < 18446744073709551616 := by
    rw [xFn, if_neg h0]
    exact Nat.lt_trans (Nat.mod_lt _ (by omega)) hs
   show _ = Ending.returned (.tuple #[.agg (nl (widN low high m)).toArray, _])
   rw [nl_small _ hw]
   rfl
theorem wide_none (low high : Nat) (w : World) : Calls Tryz.prog 227 #[num low, num high, num 0] w fun e w' =>
  e = .returned (.tuple #[num 0, .int .i64 1]) ∧ Below w.heap.size w w' := by
 have z := xDm 0
 have hR := Rep.init w
 go_enter Tryz.func227, Tryz.ntmps227
 go_wp2_with (first | (refine' aAq hR ?_; clear hR; intro blk w hR) | (refine' aBq hR ?_; clear hR; intro blk w hR) | (refine' aEq hR ?_) | (refine' aFq hR ?_; clear hR; intro w hR))
 (refine' bodyPost_ret (xAh Tryz.results227 rfl (hR.loadAll (P := Tryz.prog) (ty := 24) ?hm ?hn)) rfl ⟨?_, hR.below⟩; (case hm => first | with_reducible assumption | repeat (first | exact .head _ | apply mT)); (case hn => first | rfl | simp))
 rw [xBe]
 rfl
theorem wide_any (low high m : Nat) (hl : low < B) (hh : high < B) (hm : m < B) (w : World) : Calls Tryz.prog 227 #[num low, num high, num m] w fun e w' =>
  e = .returned (.tuple #[num (widN low high m), .int .i64 (if m = 0 then 1 else 0)]) ∧ Below w.heap.size w w' := by
 by_cases h : m = 0
 ·subst h
  rw [if_pos rfl, xFn, if_pos rfl]
  exact wide_none low high w
 ·rw [if_neg h]
  by_cases hs : m < 18446744073709551616
  ·exact wide_short low high m hl hh h hs w
  ·exact wide_long low high m hl hh hm hs w
end
end Go.Proofs.YtaaahfjpnggkbaaGreatDoor
