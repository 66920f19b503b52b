/- The contract of slices.Backward over a row of words. -/
import Derived.RangeFuncNested
import Derived.RangeFuncBound
import Derived.RangeFuncCalls
import Derived.RangeFuncLeaves
import Derived.RangeFuncBox
import Derived.RangeFuncFrom
import Derived.Shelf.Abstract
import Derived.Shelf.RegionOpen
import Derived.WalkKit
import Derived.OwnWalkIn
import Derived.TacticsInMore
import Derived.LoopNIn
import Derived.LoopIn
import Derived.Test.YtdmdkdodfngjiaaNum
import Derived.Test.YtdmdkdodfngjiaaCut
set_option linter.unusedSimpArgs false
set_option linter.unusedVariables false
namespace Go.Proofs.Ytdmdkdodfngjiaa
open Go.RowKit
attribute [local go_sem] Oper.semAt_some

/-- A word. -/
abbrev Word := { n : Nat // n < 18446744073709551616 }
/-- The words from the last one down to number m, each with its number. -/
def dn (len : Nat) (zs : Nat → Word) (m : Nat) : List (Int × Word) := (List.range (len - m)).map fun k => (((len - 1 - k : Nat) : Int), zs (len - 1 - k))
theorem dn_top (len : Nat) (zs : Nat → Word) : dn len zs len = [] := by simp [dn]
theorem dn_succ (len : Nat) (zs : Nat → Word) {m : Nat} (h : m < len) : dn len zs m = dn len zs (m + 1) ++ [((m : Int), zs m)] := by
  unfold dn
  rw [show len - m = (len - (m + 1)) + 1 by omega, List.range_succ, List.map_append, List.map_cons, List.map_nil, show len - 1 - (len - (m + 1)) = m by omega]
theorem dn_length (len : Nat) (zs : Nat → Word) (m : Nat) : (dn len zs m).length = len - m := by simp [dn]

/-- Two blocks read as they did. -/
def keep2 (b1 b2 : Nat) (A B : World) : Prop := ∀ p : Addr, p.block = b1 ∨ p.block = b2 → B.cell? p = A.cell? p
theorem keep2_t {b1 b2 : Nat} {A B C : World} (h1 : keep2 b1 b2 A B) (h2 : keep2 b1 b2 B C) : keep2 b1 b2 A C := fun p hp => (h2 p hp).trans (h1 p hp)
theorem keep2_b {b1 b2 : Nat} {w : World} (h1 : b1 < w.heap.size) (h2 : b2 < w.heap.size) (W : World) (l : Nat) (o o' : Obj) (hl : w.heap.size ≤ l) (_ : W.heap[l]? = some o) (_ : o.isCells = false) (_ : o.isWalk = false) : keep2 b1 b2 W (W.putObj l o') := fun p hp =>
  World.cell?_of_block (World.putObj_heap_other (fun e => by rcases hp with h | h <;> omega))

set_option maxRecDepth 100000 in
set_option maxHeartbeats 2000000 in
/-- The closure: from the last word down. -/
theorem back1_in (F : Fence) (n : Nat) (h7 : F.fn 127) (hro : F.round = none) (hn : 1 ≤ n) (l Bs b len cap : Nat) (zs : Nat → Word) (hlen : len ≤ 1000000) (J Jx : List (Int × Word) → World → Prop)
    (hY : ∀ pre x W, J pre W → pre.length < len → YieldAt F (n - 1) Try.prog l #[.int .i64 x.1, .int .u64 (x.2.1 : Int)] W fun e W' =>
      (e = .returned (.bool true) ∧ J (pre ++ [x]) W' ∧ keep2 b Bs W W') ∨ (e = .returned (.bool false) ∧ Jx (pre ++ [x]) W'))
    (W : World) (hBs : W.cell? ⟨Bs, 0, none⟩ = some (.slice (some ⟨b, 0, none⟩) len cap)) (hc : ∀ j, j < len → W.cell? ⟨b, j, none⟩ = some (.int .u64 ((zs j).1 : Int))) (h0 : J [] W) :
    CallsIn F n Try.prog 127 #[.func (.yield l) #[] #[], .pointer (some ⟨Bs, 0, none⟩)] W fun e W' => (∃ v, e = .returned v) ∧
      ((∃ ys, ys = dn len zs 0 ∧ J ys W') ∨ (∃ pre, True ∧ Jx pre W')) := by
  refine callsIn_of_wp Try.func127 rfl h7 ?_ hro
  simp only [Try.ntmps127, List.size_toArray, List.length_cons, List.length_nil, Nat.reduceAdd, Nat.reduceSub, Array.replicate_succ, Array.replicate_zero, List.push_toArray, List.append_toArray, List.nil_append, List.cons_append]
  gi_wp2
  gi_loopw [3] (fun i wr => ∃ m : Nat, m ≤ len ∧ i = .int .i64 ((m : Int) - 1) ∧ J (dn len zs m) wr ∧ keep2 b Bs W wr)
    (fun i _ => (intOf i + 1).toNat)
  case atStart => exact ⟨len, Nat.le_refl _, by simp, by rw [dn_top]; exact h0, fun _ _ => rfl⟩
  case round =>
    obtain ⟨m, hm, rfl, hJs, hnx⟩ := hrel
    have hbox : wr.cell? ⟨Bs, 0, none⟩ = some (.slice (some ⟨b, 0, none⟩) len cap) := (hnx ⟨Bs, 0, none⟩ (.inr rfl)).trans hBs
    cases m with
    | zero =>
      gi_wp2
      go_end0
      exact ⟨⟨_, rfl⟩, .inl ⟨_, rfl, hJs⟩⟩
    | succ m =>
      have hcx : wr.cell? ⟨b, m, none⟩ = some (.int .u64 ((zs m).1 : Int)) := (hnx ⟨b, m, none⟩ (.inl rfl)).trans (hc m (by omega))
      obtain ⟨fn, tmps, assign, body, hy, hR⟩ := hY _ ((m : Int), zs m) wr hJs (by rw [dn_length]; omega)
      dsimp only at hy
      rw [show ((m + 1 : Nat) : Int) - 1 = (m : Int) by omega]
      have hm1 : (m : Int) < (len : Int) := by omega
      have hm2 : 0 ≤ (m : Int) := by omega
      gi_wp2
      refine hR.mono ?_
      rintro e W3 (⟨rfl, hJ3, hk3⟩ | ⟨rfl, hJx3⟩)
      · gi_wp2
        go_roundw
        case rel => exact ⟨m, by omega, rfl, by rw [dn_succ len zs (by omega)]; exact hJ3, keep2_t hnx hk3⟩
        case measure => simp [intOf]
      · gi_wp2
        refine bodyPost_ret (results_none rfl _ _ _) rfl ?_
        exact ⟨⟨_, rfl⟩, .inr ⟨_, trivial, hJx3⟩⟩

/-- What slices.Backward hands back: a function that hands out the words, from the last one down. -/
theorem back_stops (F : Fence) (n : Nat) (h7 : F.fn 127) (hro : F.round = none) (hn : 1 ≤ n) (Bs b len cap : Nat) (zs : Nat → Word) (hlen : len ≤ 1000000) (w : World) (hb : b < w.heap.size) (hBn : Bs < w.heap.size)
    (hBs : w.cell? ⟨Bs, 0, none⟩ = some (.slice (some ⟨b, 0, none⟩) len cap)) (hc : ∀ j, j < len → w.cell? ⟨b, j, none⟩ = some (.int .u64 ((zs j).1 : Int))) :
    SeqStopsK F n Try.prog 127 #[.pointer (some ⟨Bs, 0, none⟩)] (fun x : Int × Word => #[Value.int .i64 x.1, Value.int .u64 (x.2.1 : Int)]) (keep2 b Bs) (fun ys => ys = dn len zs 0) (fun _ => True) len w := fun l J Jx W hW _ _ hY h0 =>
  back1_in F n h7 hro hn l Bs b len cap zs hlen J Jx hY W ((hW.cell (p := ⟨Bs, 0, none⟩) (by exact hBn)).trans hBs) (fun j hj => (hW.cell (p := ⟨b, j, none⟩) (by exact hb)).trans (hc j hj)) h0

set_option maxRecDepth 100000 in
set_option maxHeartbeats 1000000 in
/-- slices.Backward: the slice value is boxed; the function value captures the box. -/
theorem backward_any (a : Option Addr) (len cap : Nat) (w : World) :
    Calls Try.prog 83 #[.slice a len cap] w fun e w' => e = .returned (.func (.func 127) #[] #[.pointer (some ⟨w.heap.size, 0, none⟩)]) ∧ w' = w.alloc (.cells #[.slice a len cap] 81) := by
  go_enter Try.func83, Try.ntmps83
  go_wp2
  go_ret
  exact ⟨rfl, rfl⟩
end Go.Proofs.Ytdmdkdodfngjiaa
