/- The contracts of balefirelaw01.BytesSize, RecordsSize and Beyond. -/
import Derived.Test.YtgfoeongjhkdmaaGreatRE
import Derived.Test.YtgfoeongjhkdmaaGreatRD
import Derived.Laws.IdiomCopy
import Derived.WalkKit
import Derived.OwnWalkIn
import Derived.Lib.AppendZerosOnto
import Derived.Laws.IdiomStrings
import Derived.Test.YtgfoeongjhkdmaaGreatRH
set_option linter.unusedVariables false
set_option linter.unusedSimpArgs false
namespace Go.Proofs.YtgfoeongjhkdmaaGreat
open Go.RowKit
attribute [local irreducible] Calls
instance cellBytes : CellT Tryz.prog 49 := .mk' (by kernel_rfl) (by kernel_rfl)
end Go.Proofs.YtgfoeongjhkdmaaGreat
namespace Go.Proofs.YtgfoeongjhkdmaaGreat
open Go.RowKit
attribute [local irreducible] Calls
structure Gro where
  a : Option Addr
  cap : Nat
  bl : List (Nat × Obj)
def GroOk (x : Gro) (m : List Nat) : Prop := (x = ⟨none, 0, []⟩ ∧ m = []) ∨
  ∃ g, ∃ cur : List Value, x.a = some ⟨g, 0, none⟩ ∧ x.bl = [(g, .cells cur.toArray 5)] ∧ m.length ≤ x.cap ∧ x.cap ≤ maxLen ∧ cur.length = x.cap ∧ cur.take m.length = u8s m.length (fun j => m.getD j 0)
section
variable {B0 : Nat} {w0 w : World} {L : List (Nat × Obj)}
theorem Rep.permB {L' : List (Nat × Obj)} (h : Rep B0 w0 L w) (hp : L.Perm L') : Rep B0 w0 L' w :=
  ⟨h.below, h.le, fun p hp' => h.own p (hp.mem_iff.2 hp'), (hp.map _).nodup_iff.1 h.uniq⟩
theorem gro_slice {x : Gro} {m : List Nat} (h : GroOk x m) (hb : ∀ j, m.getD j 0 < 256) : xBo B0 w0 (L ++ x.bl) (.slice x.a m.length x.cap) m := by
  rcases h with ⟨rfl, rfl⟩ | ⟨g, cur, ha, hbl, h1, h2, h3, h4⟩
  · exact sliceOf_nil
  · refine ⟨_, _, rfl, h1, h2, hb, fun _ => ⟨g, 0, ha, fun w hw j hj => ?_⟩⟩
    rw [Nat.zero_add]
    refine hw.cell (List.mem_append_right _ (by rw [hbl]; exact .head _)) ?_
    have := u8s_at (w := fun j => m.getD j 0) hj
    rw [← h4, List.getElem?_take, if_pos hj] at this
    exact this
theorem xBz {m xs : List Nat} (h1 : ∀ j, m.getD j 0 < 256) (h2 : ∀ j, xs.getD j 0 < 256) (j : Nat) : (m ++ xs).getD j 0 < 256 := by
  by_cases h : j < m.length
  · rw [xDi _ _ h]; exact h1 j
  · obtain ⟨k, rfl⟩ : ∃ k, j = m.length + k := ⟨j - m.length, by omega⟩
    rw [xDc]; exact h2 k
theorem u8s_app (m xs : List Nat) : u8s (m ++ xs).length (fun j => (m ++ xs).getD j 0) = u8s m.length (fun j => m.getD j 0) ++ u8s xs.length (fun j => xs.getD j 0) := by
  rw [xCu, xCu, xCu, List.length_append, List.range_add, List.map_append, List.map_map]
  congr 1
  · refine List.map_congr_left fun j hj => ?_
    show Value.int .u8 (((m ++ xs).getD j 0 : Nat) : Int) = _
    rw [xDi _ _ (List.mem_range.1 hj)]
  · refine List.map_congr_left fun j hj => ?_
    show Value.int .u8 (((m ++ xs).getD (m.length + j) 0 : Nat) : Int) = _
    rw [xDc]
theorem append_zero (g n cap : Nat) (hn : n ≤ cap) (hc : cap ≤ maxLen) (a : Option Addr) (c : Nat) (ty : TypeId) (w : World) : (Builtin.append_ #[49, 49] ty #[.slice (some ⟨g, 0, none⟩) n cap, .slice a 0 c]).run Tryz.prog w = .ok (.slice (some ⟨g, 0, none⟩) n cap) w := by
  have := Tryz.underlying49
  obtain ⟨i0, hi, hz0, hz1, hz2⟩ := info_parts info_u8
  cases a <;> simp [Builtin.append_, run_underlying Tryz.underlying49, Builtin.lenOf, Builtin.firstCells, sizeOf, typeInfo, hi, loadCells, loadCellsFrom, hn, storeCells]
theorem wpList_appendZero {ops : Array Oper} {rest : List Oper} {o : Oper} {a : Act} {Q : Exit → Act → World → Prop} (hgd : o.guard = none) {s x : Operand} (ho : o.op = .call { callee := .builtin .append, args := #[s, x], argTypes := #[49, 49] })
    {g n cap : Nat} (hn : n ≤ cap) (hc : cap ≤ maxLen) (hs : a.eval s = .slice (some ⟨g, 0, none⟩) n cap) {ad : Option Addr} {c : Nat} (hx : a.eval x = .slice ad 0 c) (h : wpList Tryz.prog ops Q rest (a.put o.dst (.slice (some ⟨g, 0, none⟩) n cap)) w) : wpList Tryz.prog ops Q (o :: rest) a w :=
  wpList_plain hgd fun _ hK => by
    unfold Oper.wp execOp
    simp only [ho, resolve, invoke, builtin, Sem.run_bind, Sem.run_pure, Result.andThen_ok, List.map_toArray, List.map_cons, List.map_nil, hs, hx, append_zero g n cap hn hc]
    exact hK _ _ h
end
end Go.Proofs.YtgfoeongjhkdmaaGreat
namespace Go.Proofs.YtgfoeongjhkdmaaGreat
open Go.RowKit
attribute [local irreducible] Calls
noncomputable def beF : Nat → Nat → Nat → Nat := opq fun n x i => x / 2 ^ (8 * (n - 1 - i)) % 256
theorem beF_def (n x i : Nat) : beF n x i = x / 2 ^ (8 * (n - 1 - i)) % 256 := by unfold beF; rw [xCe]
theorem beF_lt (n x i : Nat) : beF n x i < 256 := by rw [beF_def]; exact Nat.mod_lt _ (by decide)
noncomputable def beL (n x : Nat) : List Nat := (List.range n).map (beF n x)
theorem xBr (n x : Nat) : (beL n x).length = n := by simp [beL]
theorem beL_at (n x : Nat) {j : Nat} (h : j < n) : (beL n x).getD j 0 = beF n x j := by
  unfold beL; rw [List.getD_eq_getElem?_getD, List.getElem?_map, List.getElem?_range h]; rfl
theorem beL_lt (n x j : Nat) : (beL n x).getD j 0 < 256 := by
  by_cases h : j < n
  · rw [beL_at n x h]; exact beF_lt _ _ _
  · rw [List.getD_eq_getElem?_getD, List.getElem?_eq_none (by rw [xBr]; omega)]; exact (by decide : 0 < 256)
structure OwnOk (cap : Nat) (cur : List Value) (ys : List Nat) : Prop where
  le : ys.length ≤ cap
  big : cap ≤ maxLen
  len : cur.length = cap
  is : cur.take ys.length = u8s ys.length fun j => ys.getD j 0
  byte : ∀ j, ys.getD j 0 < 256
section
variable {B0 : Nat} {w0 w : World} {L : List (Nat × Obj)}
theorem own_at {cap g : Nat} {cur : List Value} {ys : List Nat} (h : OwnOk cap cur ys) {L : List (Nat × Obj)} (hm : (g, Obj.cells cur.toArray 5) ∈ L) : xBo B0 w0 L (.slice (some ⟨g, 0, none⟩) ys.length cap) ys :=
  ⟨_, cap, rfl, h.le, h.big, h.byte, fun _ => ⟨g, 0, rfl, fun w hw j hj => by
    rw [Nat.zero_add]
    refine hw.cell hm ?_
    have := u8s_at (w := fun j => ys.getD j 0) hj
    rw [← h.is, List.getElem?_take, if_pos hj] at this
    exact this⟩⟩
theorem own_slice {cap g : Nat} {cur : List Value} {ys : List Nat} (h : OwnOk cap cur ys) : xBo B0 w0 ((g, .cells cur.toArray 5) :: L) (.slice (some ⟨g, 0, none⟩) ys.length cap) ys := own_at h (.head _)
def Fresh (B0 : Nat) (w0 : World) (L : List (Nat × Obj)) (e : Ending) (w' : World) (ys : List Nat) : Prop := ∃ g cap, e = .returned (.slice (some ⟨g, 0, none⟩) ys.length cap) ∧ ∃ cur, OwnOk cap cur ys ∧ Rep B0 w0 ((g, .cells cur.toArray 5) :: L) w'
theorem make_nc (n c : Nat) (hn : n ≤ c) (hc : c ≤ 16000000) : ∃ l : List Value, l.length = c ∧ ∀ w : World, (Instr.makeSlice 49 (.int .i64 (n : Int)) (.int .i64 (c : Int))).run Tryz.prog w = .ok (.slice (some ⟨w.heap.size, 0, none⟩) n c) (w.alloc (.cells l.toArray 5)) := by
  obtain ⟨i0, hi, hz0, hz1, hz2⟩ := info_parts info_u8
  refine ⟨(madeCells (Value.int .u8 0).cells c).toList, by simp [size_madeCells], fun w => ?_⟩
  rw [run_makeSlice (P := Tryz.prog) w 49 5 i0 (.int .u8 0) Tryz.underlying49 hi hz0 .i64 .i64 (n : Int) (c : Int) (by omega) (by omega) (by rw [hz1]; simp; omega) (by rw [hz2]; omega) (by omega)]
  rw [hz1]
  simp
section
variable {ops : Array Oper} {rest : List Oper} {o : Oper} {a : Act} {Q : Exit → Act → World → Prop}
theorem wpList_copyOf {g n cap : Nat} {cur : List Value} {v : Value} {xs : List Nat} (hR : Rep B0 w0 ((g, .cells cur.toArray 5) :: L) w) (hgd : o.guard = none) {d s : Operand} (ho : o.op = .call { callee := .builtin .copy, args := #[d, s], argTypes := #[49, 49] })
    (hd : a.eval d = .slice (some ⟨g, 0, none⟩) n cap) (hs : a.eval s = v) (hv : xBo B0 w0 L v xs) (hn : xs.length = n) (hfit : n ≤ cur.length)
    (h : ∀ (cur' : List Value) w', cur'.length = cur.length → cur'.take n = u8s n (fun j => xs.getD j 0) → Rep B0 w0 ((g, .cells cur'.toArray 5) :: L) w' → wpList Tryz.prog ops Q rest (a.put o.dst (.int .i64 (n : Int))) w') : wpList Tryz.prog ops Q (o :: rest) a w := by
  obtain ⟨av, cv, rfl, c1, c2, c3, c4⟩ := hv
  by_cases hx : xs = []
  · subst hx
    obtain rfl : n = 0 := hn.symm
    refine wpList_plain hgd fun K hK => ?_
    have hrun := run_copy_none (P := Tryz.prog) w 49 49 o.type 5 (some ⟨g, 0, none⟩) av 0 cap 0 cv Tryz.underlying49 sz_u8 rfl
    unfold Oper.wp
    have hs' : a.eval s = .slice av 0 cv := hs
    simp [execOp, ho, resolve, invoke, builtin, hd, hs', hrun, Result.andThen]
    exact hK _ _ (h cur w rfl (by rw [xCu]; rfl) hR)
  · obtain ⟨bb, off, rfl, c5⟩ := c4 hx
    refine wpList_copyRep (l' := u8s n (fun j => xs.getD j 0) ++ cur.drop n) hR hgd ho Tryz.underlying49 sz_u8 hd hs (u8s n fun j => xs.getD j 0) (xCr _ _) xAx.head ?_ (fun j v hj => ?_) (by omega) (u8s_mem _ _) ?_ (fun w' hw' => ?_)
    · rw [hn]; exact (Nat.min_self n).symm
    · have hjn : j < n := by
        have := (List.getElem?_eq_some_iff.1 hj).1
        simpa using this
      rw [u8s_at hjn] at hj
      rw [← Option.some.inj hj, addr_none]
      exact c5 w hR.drop1 j (by omega)
    · rw [List.take_zero, List.nil_append, Nat.zero_add]
    · refine h _ w' ?_ ?_ hw'
      · rw [List.length_append, xCr, List.length_drop]; omega
      · rw [List.take_append_of_le_length (by rw [xCr]; exact Nat.le_refl _), List.take_of_length_le (by rw [xCr]; exact Nat.le_refl _)]
end
noncomputable def putF (xs : List Nat) (n x : Nat) : Nat → Nat := opq fun j => (xs ++ beL n x).getD j 0
theorem putF_def (xs : List Nat) (n x j : Nat) : putF xs n x j = (xs ++ beL n x).getD j 0 := by unfold putF; rw [xCe]
theorem putF_old (xs : List Nat) (n x : Nat) {j : Nat} (h : j < xs.length) : putF xs n x j = xs.getD j 0 := by rw [putF_def, xDi _ _ h]
theorem putF_new (xs : List Nat) (n x : Nat) {i : Nat} (h : i < n) : putF xs n x (xs.length + i) = beF n x i := by rw [putF_def, xDc, beL_at n x h]
set_option maxRecDepth 100000 in
set_option maxHeartbeats 4000000 in
theorem put_any (v : Value) (xs : List Nat) (nb z wb : Nat) (hnb : 1 ≤ nb ∧ nb ≤ 8) (hz : z < 18446744073709551616) (hbig : xs.length ≤ 10000000) (hv : xBo B0 w0 L v xs) (hm : (wb, Obj.cells [Value.int .u64 (z : Int)].toArray 22) ∈ L) (hR : Rep B0 w0 L w) :
    Calls Tryz.prog 59 #[v, .int .i64 (nb : Int), .slice (some ⟨wb, 0, none⟩) 1 1] w fun e w' => Fresh B0 w0 L e w' (xs ++ beL nb z) := by
  obtain ⟨i0, hi, hz0, hz1, hz2⟩ := info_parts info_u8
  obtain ⟨N, hN⟩ : ∃ N, xs.length = N := ⟨_, rfl⟩
  obtain ⟨M, hM⟩ : ∃ M, N + nb = M := ⟨_, rfl⟩
  have hv0 := hv
  obtain ⟨av, cv, rfl, d1, d2, d3, d4⟩ := hv
  rw [hN] at hbig d1 hv0 ⊢
  have f0 : IntKind.i64.wrap (nb : Int) = (nb : Int) := by rw [IntKind.wrap_i64]; omega
  have f1 : IntKind.i64.wrap ((N : Int) + (nb : Int)) = (M : Int) := by rw [IntKind.wrap_i64]; omega
  obtain ⟨l0, hl0, hmk⟩ := make_nc N M (by omega) (by omega)
  have hw : (w.cell? ⟨wb, 0, none⟩) = some (.int .u64 (z : Int)) := hR.cell (off := 0) hm rfl
  have hNM : N ≤ l0.length := by omega
  replace hN := Held.mk hN
  replace hM := Held.mk hM
  replace hl0 := Held.mk hl0
  replace hv0 := Held.mk hv0
  clear d4 hw
  go_enter Tryz.func59, Tryz.ntmps59
  go_wp2_with (first | (refine' xAb hR rfl rfl rfl ?_; clear hR; intro blk w hR) | (refine' xAa hR rfl rfl inferInstance ?_; clear hR; intro blk w hR) | (refine' aAq hR rfl rfl rfl inferInstance ?_) | (refine' aBq hR rfl rfl rfl inferInstance ?_) | (refine' aCq hR rfl rfl rfl inferInstance ?_) | (refine' aDq hR rfl rfl rfl inferInstance rfl ?_; clear hR; intro w hR) | (refine' aEq hR rfl rfl rfl inferInstance rfl rfl ?_; clear hR; intro w hR) | (refine' wpList_makeRep hR rfl rfl rfl rfl hmk ?_; clear hR; intro blk w hR) | (refine' wpList_copyOf hR rfl rfl rfl rfl hv0.out hN.out hNM ?_; clear hR; intro cur w k1 k2 hR))
  have hk1 : cur.length = M := by rw [k1, hl0.out]
  have hk2 : cur.take N = u8s N (putF xs nb z) := by rw [k2]; exact u8s_congr fun j hj => (putF_old xs nb z (by rw [hN.out]; exact hj)).symm
  clear k1 k2 hNM hmk d1 d2 hv0
  refine' xCc (false :: false :: false :: false :: false :: false :: false :: false :: false :: true :: true :: false :: false :: false :: false :: false :: false :: false :: false :: false :: false :: false :: false :: false :: false :: false :: false :: true :: true :: true :: true :: true :: true :: true :: true :: true :: true :: true :: true :: true :: true :: true :: true :: true :: true :: true :: true :: false :: []) (fun (x : Nat × Buf) l => (l.set 7 (.slice (some ⟨x.2.g, 0, none⟩) x.2.i x.2.cap)).set 26 (.int .i64 (x.1 : Int))) (fun x => (x.2.g, .cells x.2.cur.toArray 5) :: L) (fun x => 1 - x.1) (fun y => ((y.1 = 0 ∧ y.2.i = N) ∨ (y.1 = 1 ∧ y.2.i = M)) ∧ BufOk y.2.i (putF xs nb z) y.2) (0, ⟨N, blk, M, cur⟩) ?h0 ?hO ?hR ?hs
  case h0 => exact xAu rfl rfl rfl
  case hO => exact ⟨.inl ⟨rfl, rfl⟩, by show N ≤ M; have := hM.out; omega, by show M ≤ _; unfold maxLen; have := hM.out; omega, hk1, hk2⟩
  case hR => exact hR
  case hs =>
    clear hR hk1 hk2 hl0
    intro y tm w hO ht hR K hK
    obtain ⟨k, n, g, cap, cur⟩ := y
    obtain ⟨hkn, ⟨ble, bbig, blen, bis⟩⟩ := hO
    simp only at hkn ble bbig blen bis ht hR
    rcases hkn with ⟨rfl, rfl⟩ | ⟨rfl, rfl⟩
    · replace bis := Held.mk bis
      replace blen := Held.mk blen
      have hld : (loadVar 22 ⟨wb, 0, none⟩).run Tryz.prog w = .ok (.int .u64 (z : Int)) w := cell_load (ty := 22) (hR.drop1.cell (off := 0) hm rfl)
      repeat (first | (obtain ⟨x, tm', e, ht'⟩ := xAf ht; clear ht; subst e; have ht := ht'; clear ht') | (obtain ⟨tm', e, ht'⟩ := xAc ht; clear ht; subst e; have ht := ht'; clear ht'))
      obtain rfl := xAk ht
      clear ht
      go_wp2_with (first | (refine' xAb hR rfl rfl rfl ?_; clear hR; intro blk w hR) | (refine' xAa hR rfl rfl inferInstance ?_; clear hR; intro blk w hR) | (refine' aAq hR rfl rfl rfl inferInstance ?_) | (refine' aBq hR rfl rfl rfl inferInstance ?_) | (refine' aCq hR rfl rfl rfl inferInstance ?_) | (refine' aDq hR rfl rfl rfl inferInstance rfl ?_; clear hR; intro w hR) | (refine' aEq hR rfl rfl rfl inferInstance rfl rfl ?_; clear hR; intro w hR) | (refine' xCg rfl rfl rfl hld ?_))
      clear hld
      have blen0 := blen.out
      refine' xCc (false :: false :: false :: false :: false :: false :: false :: false :: false :: false :: true :: false :: false :: false :: false :: false :: false :: false :: false :: false :: false :: false :: false :: false :: false :: false :: false :: false :: false :: false :: false :: false :: true :: true :: true :: true :: true :: true :: true :: true :: true :: true :: true :: true :: true :: true :: false :: false :: []) (fun (b : Buf) l => (l.set 7 (.slice (some ⟨b.g, 0, none⟩) b.i b.cap)).set 31 (.int .i64 ((b.i : Int) - (n : Nat)))) (fun b => (b.g, .cells b.cur.toArray 5) :: L) (fun b => M - b.i) (fun b => (n ≤ b.i ∧ b.i ≤ M) ∧ BufOk b.i (putF xs nb z) b) ⟨n, g, cap, cur⟩ ?i0 ?iO ?iR ?iS
      case i0 =>
        simp only [Int.sub_self]
        exact xAu rfl rfl rfl
      case iO => exact ⟨⟨Nat.le_refl _, by show n ≤ M; have := hM.out; omega⟩, ble, bbig, blen.out, bis.out⟩
      case iR => exact hR
      case iS =>
        clear hR ble bbig blen bis blen0
        intro b tm w hO ht hR K2 hK2
        obtain ⟨i, g, cap, cur⟩ := b
        obtain ⟨⟨h1n, hn1⟩, ⟨ble, bbig, blen, bis⟩⟩ := hO
        simp only at h1n hn1 ble bbig blen bis ht hR
        obtain ⟨k, hk⟩ : ∃ k, i = n + k := ⟨i - n, by omega⟩
        have ek : (i : Int) - (n : Nat) = (k : Int) := by omega
        rw [ek] at ht
        have g0 : 0 ≤ (k : Int) := by omega
        by_cases hl8 : k = nb
        · have hl8' := hl8.symm
          have t1 : ¬ (k : Int) < (nb : Int) := by omega
          obtain rfl : i = M := by have := hM.out; omega
          clear hK2
          replace hk := Held.mk hk
          replace ek := Held.mk ek
          have g9 : IntKind.i64.wrap ((0 : Int) + 1) = ((1 : Nat) : Int) := by rfl
          replace bis := Held.mk bis
          replace blen := Held.mk blen
          clear hl8 hl8'
          repeat (first | (obtain ⟨x, tm', e, ht'⟩ := xAf ht; clear ht; subst e; have ht := ht'; clear ht') | (obtain ⟨tm', e, ht'⟩ := xAc ht; clear ht; subst e; have ht := ht'; clear ht'))
          obtain rfl := xAk ht
          clear ht
          go_wp2_with (first | (refine' xAb hR rfl rfl rfl ?_; clear hR; intro blk w hR) | (refine' xAa hR rfl rfl inferInstance ?_; clear hR; intro blk w hR) | (refine' aAq hR rfl rfl rfl inferInstance ?_) | (refine' aBq hR rfl rfl rfl inferInstance ?_) | (refine' aCq hR rfl rfl rfl inferInstance ?_) | (refine' aDq hR rfl rfl rfl inferInstance rfl ?_; clear hR; intro w hR) | (refine' aEq hR rfl rfl rfl inferInstance rfl rfl ?_; clear hR; intro w hR) | fail)
          exact hK.out (1, ⟨i, g, cap, cur⟩) _ _ ⟨.inr ⟨rfl, rfl⟩, ble, bbig, blen.out, bis.out⟩ (by show 1 - 1 < 1 - 0; decide) (xAu rfl rfl rfl) hR
        · have g1 : (k : Int) < (nb : Int) := by have := hM.out; omega
          obtain ⟨n1, hn1'⟩ : ∃ x, nb - 1 = x := ⟨_, rfl⟩
          obtain ⟨d, hd⟩ : ∃ x, n1 - k = x := ⟨_, rfl⟩
          obtain ⟨sh, hsh⟩ : ∃ x, 8 * d = x := ⟨_, rfl⟩
          have e1 : IntKind.i64.wrap ((nb : Int) - 1) = (n1 : Int) := by rw [IntKind.wrap_i64]; omega
          have e2 : IntKind.i64.wrap ((n1 : Int) - (k : Int)) = (d : Int) := by rw [IntKind.wrap_i64]; omega
          have e3 : IntKind.i64.wrap (8 * (d : Int)) = (sh : Int) := by rw [IntKind.wrap_i64]; omega
          have g2 : 0 ≤ (sh : Int) := by omega
          have g3 : (sh : Int) < 64 := by omega
          obtain ⟨v, hv⟩ : ∃ v, putF xs nb z i = v := ⟨_, rfl⟩
          have e4 : IntKind.u8.wrap ((z : Int) / 2 ^ sh) = (v : Int) := by
            rw [← hv, hk, ← hN.out, putF_new xs nb z (by omega), beF_def, hn1', hd, hsh, IntKind.wrap_u8]
            simp
          have g4 : IntKind.i64.wrap ((k : Int) + 1) = (k : Int) + 1 := by rw [IntKind.wrap_i64]; omega
          have hn63 : i + 1 ≤ maxLen := by unfold maxLen; have := hM.out; omega
          have hnb2 : (i + 1) * 1 ≤ 140737488355328 := by have := hM.out; omega
          have ek2 : ((i + 1 : Nat) : Int) - (n : Nat) = (k : Int) + 1 := by omega
          have hiM : i + 1 ≤ M := by have := hM.out; omega
          have hni : n ≤ i + 1 := by omega
          have hmu : M - (i + 1) < M - i := by omega
          replace hk := Held.mk hk
          replace hn1' := Held.mk hn1'
          replace hd := Held.mk hd
          replace hsh := Held.mk hsh
          replace hv := Held.mk hv
          replace bis := Held.mk bis
          replace blen := Held.mk blen
          replace ek2 := Held.mk ek2
          replace ek := Held.mk ek
          replace hiM := Held.mk hiM
          replace hni := Held.mk hni
          replace hmu := Held.mk hmu
          repeat (first | (obtain ⟨x, tm', e, ht'⟩ := xAf ht; clear ht; subst e; have ht := ht'; clear ht') | (obtain ⟨tm', e, ht'⟩ := xAc ht; clear ht; subst e; have ht := ht'; clear ht'))
          obtain rfl := xAk ht
          clear ht
          go_wp2_with (first | (refine' xAb hR rfl rfl rfl ?_; clear hR; intro blk w hR) | (refine' xAa hR rfl rfl inferInstance ?_; clear hR; intro blk w hR) | (refine' aAq hR rfl rfl rfl inferInstance ?_) | (refine' aBq hR rfl rfl rfl inferInstance ?_) | (refine' aCq hR rfl rfl rfl inferInstance ?_) | (refine' aDq hR rfl rfl rfl inferInstance rfl ?_; clear hR; intro w hR) | (refine' aEq hR rfl rfl rfl inferInstance rfl rfl ?_; clear hR; intro w hR) | (refine' xBp hR rfl rfl rfl (xCw _) ?_; clear hR; intro bt w hR) | (refine' xCd hR rfl rfl Tryz.underlying49 hi hz0 hz1 hz2 rfl rfl rfl ble bbig blen.out rfl hn63 hnb2 ?_; clear hR; intro g' cap' cur' w hR c1 c2 c3 c4))
          refine hK2.out ⟨i + 1, g', cap', cur'⟩ _ _ ⟨⟨hni.out, hiM.out⟩, c1, c2, c3, ?_⟩ hmu.out (by simp only [ek2.out]; exact xAu rfl rfl rfl) hR
          show cur'.take (i + 1) = u8s (i + 1) (putF xs nb z)
          rw [c4, bis.out, u8s_succ, hv.out]
    · clear hK
      have e8 : ((1 : Nat) : Int) = 1 := rfl
      rw [e8] at ht
      clear e8
      repeat (first | (obtain ⟨x, tm', e, ht'⟩ := xAf ht; clear ht; subst e; have ht := ht'; clear ht') | (obtain ⟨tm', e, ht'⟩ := xAc ht; clear ht; subst e; have ht := ht'; clear ht'))
      obtain rfl := xAk ht
      clear ht
      go_wp2_with (first | (refine' xAb hR rfl rfl rfl ?_; clear hR; intro blk w hR) | (refine' xAa hR rfl rfl inferInstance ?_; clear hR; intro blk w hR) | (refine' aAq hR rfl rfl rfl inferInstance ?_) | (refine' aBq hR rfl rfl rfl inferInstance ?_) | (refine' aCq hR rfl rfl rfl inferInstance ?_) | (refine' aDq hR rfl rfl rfl inferInstance rfl ?_; clear hR; intro w hR) | (refine' aEq hR rfl rfl rfl inferInstance rfl rfl ?_; clear hR; intro w hR) | fail)
      go_ret
      have e : (xs ++ beL nb z).length = n := by rw [List.length_append, xBr, hN.out, hM.out]
      refine ⟨g, cap, by rw [e]; rfl, cur, ⟨by rw [e]; exact ble, bbig, blen, by rw [e, bis]; exact u8s_congr fun j _ => putF_def xs nb z j, xBz d3 (beL_lt nb z)⟩, hR⟩
end
end Go.Proofs.YtgfoeongjhkdmaaGreat
namespace Go.Proofs.YtgfoeongjhkdmaaGreat
open Go.RowKit
attribute [local irreducible] Calls
theorem ownOk_nil {cap : Nat} {cur : List Value} (h1 : cap ≤ maxLen) (h2 : cur.length = cap) : OwnOk cap cur [] := ⟨Nat.zero_le _, h1, h2, by rw [xCu]; rfl, fun j => (by decide : 0 < 256)⟩
section
variable {B0 : Nat} {w0 w : World} {L : List (Nat × Obj)}
set_option maxRecDepth 100000 in
set_option maxHeartbeats 4000000 in
theorem grow_nilB (n : Nat) (h0 : 0 < n) (hn : n ≤ 10000000) (hR : Rep B0 w0 L w) : Calls Tryz.prog 113 #[.slice none 0 0, .int .i64 (n : Int)] w fun e w' =>
    ∃ g cap, e = .returned (.slice (some ⟨g, 0, none⟩) 0 cap) ∧ ∃ cur, OwnOk cap cur [] ∧ Rep B0 w0 ((g, .cells cur.toArray 5) :: L) w' := by
  obtain ⟨i0, hi, hz0, hz1, hz2⟩ := info_parts info_u8
  have hrz : ∀ ty, (Builtin.append_ #[49, 3] ty #[.slice none 0 0, .int .i64 (n : Int)]).run Tryz.prog w =
      .ok (.slice (some ⟨w.heap.size, 0, none⟩) n (grownCap w n 0 5)) (w.drew.alloc (.cells (#[] ++ Builtin.zeroCells (Value.int .u8 0).cells n ++ Builtin.zeroCells (Value.int .u8 0).cells (grownCap w n 0 5 - n)) 5)) := fun ty => by
    have h := Lib.run_append_grow_zeros w 49 3 ty 5 i0 (.int .u8 0) .i64 .i64 Tryz.underlying49 Tryz.underlying3 hi hz0 none 0 0 [] (run_firstCells_none w.drew i0.size 0 0 0) n h0 (by omega) (by omega) (by omega) (by rw [hz2]; omega)
      (by rw [Nat.zero_add]; exact growslice_fits (by omega) (by rw [hz2]; omega))
    rw [Nat.zero_add] at h
    exact h
  have hGn : n ≤ grownCap w n 0 5 := grownCap_ge w _ _ _
  have hGm : grownCap w n 0 5 ≤ maxLen := grownCap_le_maxLen w n 0 5 (by unfold maxLen; omega)
  generalize grownCap w n 0 5 = G at *
  have hG63 : G ≤ 9223372036854775807 := by unfold maxLen at hGm; omega
  have hd := hR.drew
  have es : w.drew.heap.size = w.heap.size := rfl
  have ha := hd.alloc (.cells (#[] ++ Builtin.zeroCells (Value.int .u8 0).cells n ++ Builtin.zeroCells (Value.int .u8 0).cells (G - n)) 5)
  rw [es] at ha
  have hsz : (#[] ++ Builtin.zeroCells (Value.int .u8 0).cells n ++ Builtin.zeroCells (Value.int .u8 0).cells (G - n)).size = G := by
    simp only [Array.size_append, size_zeroCells]
    have : (Value.int .u8 0).cells.size = 1 := rfl
    rw [this]
    simp
    omega
  generalize hz : (#[] ++ Builtin.zeroCells (Value.int .u8 0).cells n ++ Builtin.zeroCells (Value.int .u8 0).cells (G - n)) = zs at *
  generalize w.drew.alloc (.cells zs 5) = w1 at *
  have ho : OwnOk G zs.toList [] := ownOk_nil hGm (by simpa using hsz)
  have ha' : Rep B0 w0 ((w.heap.size, .cells zs.toList.toArray 5) :: L) w1 := by simpa using ha
  have h1 : ¬ ((n : Int) < 0) := by omega
  have h2 : (n : Int) > 0 := by omega
  have h3 : (n : Int) ≤ 9223372036854775807 := by omega
  clear hz hsz hd ha
  replace ho := Held.mk ho
  replace ha' := Held.mk ha'
  go_enter Tryz.func113, Tryz.ntmps113
  go_wp2_with (at_builtin; refine Lib.wpList_append_run _ rfl _ _ _ _ rfl _ _ rfl rfl _ _ (hrz _) ?_)
  all_goals (go_ret; exact ⟨_, _, rfl, _, ho.out, ha'.out⟩)
section
variable {ops : Array Oper} {rest : List Oper} {o : Oper} {a : Act} {Q : Exit → Act → World → Prop}
theorem wpList_appendOwn {g cap : Nat} {cur : List Value} {ys xs : List Nat} {v : Value} (hR : Rep B0 w0 ((g, .cells cur.toArray 5) :: L) w) (hgd : o.guard = none) {s y : Operand} (ho : o.op = .call { callee := .builtin .append, args := #[s, y], argTypes := #[49, 49] })
    (hs : a.eval s = .slice (some ⟨g, 0, none⟩) ys.length cap) (hy : a.eval y = v) (hg : OwnOk cap cur ys) (hv : xBo B0 w0 L v xs) (hbig : ys.length + xs.length ≤ 100000000)
    (h : ∀ g' cap' (cur' : List Value) w', OwnOk cap' cur' (ys ++ xs) → Rep B0 w0 ((g', .cells cur'.toArray 5) :: L) w' → wpList Tryz.prog ops Q rest (a.put o.dst (.slice (some ⟨g', 0, none⟩) (ys ++ xs).length cap')) w') : wpList Tryz.prog ops Q (o :: rest) a w := by
  obtain ⟨i0, hi, hz0, hz1, hz2⟩ := info_parts info_u8
  obtain ⟨ay, cy, rfl, c1, c2, c3, c4⟩ := hv
  by_cases hxs : xs = []
  · subst hxs
    have hm : ys ++ [] = ys := List.append_nil ys
    rw [hm] at h
    exact wpList_appendZero hgd ho hg.le hg.big hs hy (h g cap cur w hg hR)
  · obtain ⟨bb, off, rfl, c5⟩ := c4 hxs
    have hsrc : ∀ j u, (u8s xs.length fun j => xs.getD j 0)[j]? = some u → w.cell? ((⟨bb, off, none⟩ : Addr).add j) = some u := fun j u hj => by
      have hjn : j < xs.length := by
        have := (List.getElem?_eq_some_iff.1 hj).1
        simpa using this
      rw [u8s_at hjn] at hj
      rw [← Option.some.inj hj, addr_none]
      exact c5 w hR.drop1 j hjn
    refine wpList_appendRep hR hgd ho Tryz.underlying49 hi hz0 hz1 hz2 rfl hs hg.le hg.big hg.len hy (xCr _ _) hsrc (u8s_mem _ _) (by unfold maxLen; omega) (by omega) ?_
    intro g' cap' cur' w' hR' d1 d2 d3 d4
    have hl : (ys ++ xs).length = ys.length + xs.length := List.length_append
    have := h g' cap' cur' w' ⟨by rw [hl]; exact d1, d2, d3, by rw [u8s_app, ← hg.is, hl]; exact d4, xBz hg.byte c3⟩ hR'
    rw [hl] at this
    exact this
end
set_option maxRecDepth 100000 in
set_option maxHeartbeats 4000000 in
theorem concat_bytes (sb : Nat) (v1 v2 : Value) (xs ys : List Nat) (hm : (sb, Obj.cells [v1, v2].toArray 49) ∈ L) (h1 : xBo B0 w0 L v1 xs) (h2 : xBo B0 w0 L v2 ys) (h0 : 0 < xs.length) (hbig : xs.length + ys.length ≤ 10000000) (hR : Rep B0 w0 L w) :
    Calls Tryz.prog 106 #[.slice (some ⟨sb, 0, none⟩) 2 2] w fun e w' => Fresh B0 w0 L e w' (xs ++ ys) := by
  have h1' := h1
  have h2' := h2
  obtain ⟨a1, c1, rfl, _⟩ := h1
  obtain ⟨a2, c2, rfl, _⟩ := h2
  obtain ⟨l1, e1⟩ : ∃ n, xs.length = n := ⟨_, rfl⟩
  obtain ⟨l2, e2⟩ : ∃ n, ys.length = n := ⟨_, rfl⟩
  obtain ⟨n, e3⟩ : ∃ n, l1 + l2 = n := ⟨_, rfl⟩
  rw [e1] at h1' hm h0 hbig
  rw [e2] at h2' hm hbig
  have f1 : IntKind.i64.wrap (l1 : Int) = (l1 : Int) := by rw [IntKind.wrap_i64]; omega
  have f2 : IntKind.i64.wrap ((l1 : Int) + (l2 : Int)) = (n : Int) := by rw [IntKind.wrap_i64]; omega
  have f3 : ¬ (l1 : Int) < 0 := by omega
  have f4 : ¬ (n : Int) < 0 := by omega
  have cg := fun (w : World) (hR : Rep B0 w0 L w) => grow_nilB (w := w) n (by omega) (by omega) hR
  have g1 : ([] : List Nat).length + xs.length ≤ 100000000 := by simp; omega
  have g2 : ([] ++ xs).length + ys.length ≤ 100000000 := by simp; omega
  replace h1' := Held.mk h1'
  replace h2' := Held.mk h2'
  replace e1 := Held.mk e1
  replace e2 := Held.mk e2
  replace e3 := Held.mk e3
  clear h0 hbig
  go_enter Tryz.func106, Tryz.ntmps106
  go_wp2_with (first | (refine' xAb hR rfl rfl rfl ?_; clear hR; intro blk w hR) | (refine' xAa hR rfl rfl inferInstance ?_; clear hR; intro blk w hR) | (refine' aFq hR rfl rfl rfl inferInstance ?_) | (refine' aGq hR rfl rfl rfl inferInstance ?_) | (refine' aHq hR rfl rfl rfl inferInstance ?_) | (refine' aDq hR rfl rfl rfl inferInstance rfl ?_; clear hR; intro w hR) | (refine' aEq hR rfl rfl rfl inferInstance rfl rfl ?_; clear hR; intro w hR) | fail)
  refine wp_loop_rounds 3 ?_
  rw [rounds_succ]
  go_wp2_with (first | (refine' xAb hR rfl rfl rfl ?_; clear hR; intro blk w hR) | (refine' xAa hR rfl rfl inferInstance ?_; clear hR; intro blk w hR) | (refine' aFq hR rfl rfl rfl inferInstance ?_) | (refine' aGq hR rfl rfl rfl inferInstance ?_) | (refine' aHq hR rfl rfl rfl inferInstance ?_) | (refine' aDq hR rfl rfl rfl inferInstance rfl ?_; clear hR; intro w hR) | (refine' aEq hR rfl rfl rfl inferInstance rfl rfl ?_; clear hR; intro w hR) | fail)
  rw [rounds_succ]
  go_wp2_with (first | (refine' xAb hR rfl rfl rfl ?_; clear hR; intro blk w hR) | (refine' xAa hR rfl rfl inferInstance ?_; clear hR; intro blk w hR) | (refine' aFq hR rfl rfl rfl inferInstance ?_) | (refine' aGq hR rfl rfl rfl inferInstance ?_) | (refine' aHq hR rfl rfl rfl inferInstance ?_) | (refine' aDq hR rfl rfl rfl inferInstance rfl ?_; clear hR; intro w hR) | (refine' aEq hR rfl rfl rfl inferInstance rfl rfl ?_; clear hR; intro w hR) | fail)
  rw [rounds_succ]
  go_wp2_with (first | (refine' xAb hR rfl rfl rfl ?_; clear hR; intro blk w hR) | (refine' xAa hR rfl rfl inferInstance ?_; clear hR; intro blk w hR) | (refine' aFq hR rfl rfl rfl inferInstance ?_) | (refine' aGq hR rfl rfl rfl inferInstance ?_) | (refine' aHq hR rfl rfl rfl inferInstance ?_) | (refine' aDq hR rfl rfl rfl inferInstance rfl ?_; clear hR; intro w hR) | (refine' aEq hR rfl rfl rfl inferInstance rfl rfl ?_; clear hR; intro w hR) | (go_at_call 113; refine (cg _ hR).mono ?_; clear hR; rintro e w ⟨g, cap, rfl, cur, ho, hR⟩))
  clear cg
  replace ho := Held.mk ho
  refine wp_loop_rounds 3 ?_
  rw [rounds_succ]
  go_wp2_with (first | (refine' xAb hR rfl rfl rfl ?_; clear hR; intro blk w hR) | (refine' xAa hR rfl rfl inferInstance ?_; clear hR; intro blk w hR) | (refine' aFq hR rfl rfl rfl inferInstance ?_) | (refine' aGq hR rfl rfl rfl inferInstance ?_) | (refine' aHq hR rfl rfl rfl inferInstance ?_) | (refine' aDq hR rfl rfl rfl inferInstance rfl ?_; clear hR; intro w hR) | (refine' aEq hR rfl rfl rfl inferInstance rfl rfl ?_; clear hR; intro w hR) | (refine' wpList_appendOwn (ys := []) hR rfl rfl rfl rfl ho.out h1'.out g1 ?_; clear hR ho; intro g cap cur w ho hR; replace ho := Held.mk ho))
  rw [rounds_succ]
  go_wp2_with (first | (refine' xAb hR rfl rfl rfl ?_; clear hR; intro blk w hR) | (refine' xAa hR rfl rfl inferInstance ?_; clear hR; intro blk w hR) | (refine' aFq hR rfl rfl rfl inferInstance ?_) | (refine' aGq hR rfl rfl rfl inferInstance ?_) | (refine' aHq hR rfl rfl rfl inferInstance ?_) | (refine' aDq hR rfl rfl rfl inferInstance rfl ?_; clear hR; intro w hR) | (refine' aEq hR rfl rfl rfl inferInstance rfl rfl ?_; clear hR; intro w hR) | (refine' wpList_appendOwn (ys := [] ++ xs) hR rfl rfl rfl rfl ho.out h2'.out g2 ?_; clear hR ho; intro g cap cur w ho hR; replace ho := Held.mk ho))
  rw [rounds_succ]
  go_wp2_with (first | (refine' xAb hR rfl rfl rfl ?_; clear hR; intro blk w hR) | (refine' xAa hR rfl rfl inferInstance ?_; clear hR; intro blk w hR) | (refine' aFq hR rfl rfl rfl inferInstance ?_) | (refine' aGq hR rfl rfl rfl inferInstance ?_) | (refine' aHq hR rfl rfl rfl inferInstance ?_) | (refine' aDq hR rfl rfl rfl inferInstance rfl ?_; clear hR; intro w hR) | (refine' aEq hR rfl rfl rfl inferInstance rfl rfl ?_; clear hR; intro w hR) | fail)
  go_ret
  exact ⟨g, cap, by rw [List.length_append]; rfl, cur, ho.out, hR⟩
theorem Fresh.drop {p : Nat × Obj} {e : Ending} {w' : World} {ys : List Nat} (h : Fresh B0 w0 (p :: L) e w' ys) : Fresh B0 w0 L e w' ys := by
  obtain ⟨g, cap, he, cur, ho, hR⟩ := h
  exact ⟨g, cap, he, cur, ho, hR.weaken ((List.sublist_cons_self _ _).cons_cons _)⟩
theorem word_new (v : Int) (w : World) : (Instr.buildSlice 70 1 #[(0, .int .u64 v)]).run Tryz.prog w = .ok (.slice (some ⟨w.heap.size, 0, none⟩) 1 1) (w.alloc (.cells [Value.int .u64 v].toArray 22)) := by go_simp
theorem two_new (a1 a2 : Option Addr) (n1 n2 c1 c2 : Nat) (w : World) : (Instr.buildSlice 65 2 #[(0, .slice a1 n1 c1), (1, .slice a2 n2 c2)]).run Tryz.prog w = .ok (.slice (some ⟨w.heap.size, 0, none⟩) 2 2) (w.alloc (.cells [Value.slice a1 n1 c1, .slice a2 n2 c2].toArray 49)) := by go_simp
theorem wpList_twoNew {ops : Array Oper} {rest : List Oper} {o : Oper} {a : Act} {Q : Exit → Act → World → Prop} {el ty : TypeId} {x y : Operand} {v u : Value} (hR : Rep B0 w0 L w) (hg : o.guard = none) (hop : o.op = .buildSlice ty 2 #[(0, x), (1, y)]) (hx : ev a x = some v) (hy : ev a y = some u) (hrun : ∀ w, (Instr.buildSlice ty 2 #[(0, v), (1, u)]).run Tryz.prog w = .ok (.slice (some ⟨w.heap.size, 0, none⟩) 2 2) (w.alloc (.cells [v, u].toArray el)))
    (h : ∀ b w', Rep B0 w0 ((b, .cells [v, u].toArray el) :: L) w' → wpList Tryz.prog ops Q rest (a.put o.dst (.slice (some ⟨b, 0, none⟩) 2 2)) w') : wpList Tryz.prog ops Q (o :: rest) a w :=
  wpList_plain hg fun _ hK => by
    have hx := xBt hx
    have hy := xBt hy
    unfold Oper.wp execOp
    simp only [hop, List.map_toArray, List.map_cons, List.map_nil, hx, hy, hrun, Sem.run_bind, Result.andThen_ok, Sem.run_pure]
    exact hK _ _ (h _ _ (hR.alloc _))
theorem put_word (v : Value) (xs : List Nat) (z : Nat) (hz : z < 18446744073709551616) (hbig : xs.length ≤ 10000000) (hv : xBo B0 w0 L v xs) (hR : Rep B0 w0 L w) :
    Calls Tryz.prog 87 #[v, .int .u64 (z : Int), .int .i64 4] w fun e w' => Fresh B0 w0 L e w' (xs ++ beL 4 z) := by
  have cp := fun (wb : Nat) (w' : World) (hR : Rep B0 w0 ((wb, .cells [Value.int .u64 (z : Int)].toArray 22) :: L) w') => put_any v xs 4 z wb (by decide) hz hbig hv.more (.head _) hR
  have e4 : ((4 : Nat) : Int) = 4 := rfl
  rw [e4] at cp
  clear e4 hv
  go_enter Tryz.func87, Tryz.ntmps87
  go_wp2_with (first | (refine' xAb hR rfl rfl rfl ?_; clear hR; intro blk w hR) | (refine' xAa hR rfl rfl inferInstance ?_; clear hR; intro blk w hR) | (refine' aFq hR rfl rfl rfl inferInstance ?_) | (refine' aGq hR rfl rfl rfl inferInstance ?_) | (refine' aHq hR rfl rfl rfl inferInstance ?_) | (refine' aDq hR rfl rfl rfl inferInstance rfl ?_; clear hR; intro w hR) | (refine' aEq hR rfl rfl rfl inferInstance rfl rfl ?_; clear hR; intro w hR) | (refine' xBp hR rfl rfl rfl (word_new _) ?_; clear hR; intro wb w hR) | (go_at_call 59; refine (cp _ _ hR).mono ?_; clear hR cp; rintro e w ⟨g, cap, rfl, cur, ho, hR⟩))
  go_ret
  exact ⟨g, cap, by rw [List.length_append]; rfl, cur, ho, hR.weaken ((List.sublist_cons_self _ _).cons_cons _)⟩
set_option maxRecDepth 100000 in
set_option maxHeartbeats 4000000 in
theorem put_bytes (v1 v2 : Value) (xs ys : List Nat) (hbig : xs.length + ys.length ≤ 9000000) (h1 : xBo B0 w0 L v1 xs) (h2 : xBo B0 w0 L v2 ys) (hR : Rep B0 w0 L w) :
    Calls Tryz.prog 86 #[v1, v2] w fun e w' => Fresh B0 w0 L e w' (xs ++ beL 4 ys.length ++ ys) := by
  have h2' := h2
  obtain ⟨a2, c2, rfl, _⟩ := h2
  have hl : (xs ++ beL 4 ys.length).length = xs.length + 4 := by rw [List.length_append, xBr]
  have cp := fun (w' : World) (hR : Rep B0 w0 L w') => put_word v1 xs ys.length (by omega) (by omega) h1 hR
  have cc := fun (sb g cap : Nat) (cur : List Value) (w' : World) (ho : OwnOk cap cur (xs ++ beL 4 ys.length)) (hR : Rep B0 w0 ((sb, .cells [Value.slice (some ⟨g, 0, none⟩) (xs ++ beL 4 ys.length).length cap, .slice a2 ys.length c2].toArray 49) :: (g, .cells cur.toArray 5) :: L) w') =>
    concat_bytes sb _ _ (xs ++ beL 4 ys.length) ys (.head _) (own_at ho (.tail _ (.head _))) (h2'.more.more) (by omega) (by omega) hR
  have fw : IntKind.u64.wrap (ys.length : Int) = (ys.length : Int) := by rw [IntKind.wrap_u64]; omega
  generalize hzs : xs ++ beL 4 ys.length = zs at *
  generalize ys.length = n at *
  replace hzs := Held.mk hzs
  clear hl h1 h2' hbig
  go_enter Tryz.func86, Tryz.ntmps86
  go_wp2_with (first | (refine' xAb hR rfl rfl rfl ?_; clear hR; intro blk w hR) | (refine' xAa hR rfl rfl inferInstance ?_; clear hR; intro blk w hR) | (refine' aFq hR rfl rfl rfl inferInstance ?_) | (refine' aGq hR rfl rfl rfl inferInstance ?_) | (refine' aHq hR rfl rfl rfl inferInstance ?_) | (refine' aDq hR rfl rfl rfl inferInstance rfl ?_; clear hR; intro w hR) | (refine' aEq hR rfl rfl rfl inferInstance rfl rfl ?_; clear hR; intro w hR) | (go_at_call 87; refine (cp _ hR).mono ?_; clear hR cp; rintro e w ⟨g, cap, rfl, cur, ho, hR⟩; replace ho := Held.mk ho) | (refine' wpList_twoNew hR rfl rfl rfl rfl (two_new _ _ _ _ _ _) ?_; clear hR; intro sb w hR) | (go_at_call 106; refine (cc _ _ _ _ _ ho.out hR).mono ?_; clear hR cc; rintro e w ⟨g2, cap2, rfl, cur2, ho2, hR⟩))
  go_ret
  exact ⟨g2, cap2, by rw [List.length_append]; rfl, cur2, ho2, hR.weaken (((List.sublist_cons_self _ _).trans (List.sublist_cons_self _ _)).cons_cons _)⟩
end
end Go.Proofs.YtgfoeongjhkdmaaGreat
namespace Go.Proofs.YtgfoeongjhkdmaaGreat
open Go.RowKit
attribute [local irreducible] Calls
def strB (s : ByteArray) : List Nat := s.data.toList.map (·.toNat)
theorem xCo (s : ByteArray) : (strB s).length = s.size := by unfold strB; rw [List.length_map]; rfl
theorem strB_lt (s : ByteArray) (j : Nat) : (strB s).getD j 0 < 256 := by
  unfold strB
  rw [List.getD_eq_getElem?_getD, List.getElem?_map]
  cases s.data.toList[j]? with
  | none => exact (by decide : 0 < 256)
  | some b => exact b.toNat_lt
noncomputable def encR (xss : List (List Nat)) (i : Nat) : List Nat := (xss.take i).flatMap fun b => beL 4 b.length ++ b
noncomputable def encH (s : List Nat) (n : Nat) : List Nat := beL 4 s.length ++ s ++ beL 4 n
noncomputable def encB (s : List Nat) (xss : List (List Nat)) : List Nat := encH s xss.length ++ encR xss xss.length
theorem encR_zero (xss : List (List Nat)) : encR xss 0 = [] := rfl
theorem encR_succ (xss : List (List Nat)) {i : Nat} (h : i < xss.length) : encR xss (i + 1) = encR xss i ++ beL 4 (xss.getD i []).length ++ xss.getD i [] := by
  unfold encR
  rw [List.take_add_one, List.getElem?_eq_getElem h, List.getD_eq_getElem?_getD, List.getElem?_eq_getElem h, List.flatMap_append]
  simp
section
variable {B0 : Nat} {w0 w : World} {L : List (Nat × Obj)}
theorem wpList_strBytes {ops : Array Oper} {rest : List Oper} {o : Oper} {a : Act} {Q : Exit → Act → World → Prop} {s : ByteArray} (hR : Rep B0 w0 L w) (hgd : o.guard = none) {x : Operand} (ho : o.op = .convert 9 49 x) (hx : ev a x = some (.string s)) (hs : s.size ≤ 1000000)
    (h : ∀ b cap arr fz w', (∀ L', (b, Obj.cells arr 5 fz) ∈ L' → xBo B0 w0 L' (.slice (some ⟨b, 0, none⟩) s.size cap) (strB s)) → Rep B0 w0 ((b, .cells arr 5 fz) :: L) w' → wpList Tryz.prog ops Q rest (a.put o.dst (.slice (some ⟨b, 0, none⟩) s.size cap)) w') : wpList Tryz.prog ops Q (o :: rest) a w :=
  wpList_plain hgd fun _ hK => by
    have hx := xBt hx
    have hrun := run_bytes_of_string (P := Tryz.prog) w 9 49 5 s Tryz.underlying9 Tryz.underlying49 Tryz.underlying5
    have g1 : s.size ≤ grownCap w s.size 0 5 := grownCap_ge w _ _ _
    have g2 : grownCap w s.size 0 5 ≤ maxLen := grownCap_le_maxLen w s.size 0 5 (by unfold maxLen; omega)
    unfold Oper.wp execOp
    simp only [ho, hx, hrun, Sem.run_bind, Result.andThen_ok, Sem.run_pure]
    refine hK _ _ (h _ _ _ _ _ (fun L' hm => ?_) (hR.drew.alloc _))
    refine ⟨_, _, by rw [xCo], by rw [xCo]; exact g1, g2, strB_lt s, fun _ => ⟨w.heap.size, 0, rfl, fun w' hw j hj => ?_⟩⟩
    rw [xCo] at hj
    have hh := (hw.own _ hm).2
    have hb := bytesRow_at s (grownCap w s.size 0 5) j hj
    simp only at hh
    simp only [World.cell?, hh, Option.isSome_none, Bool.false_eq_true, if_false, Nat.zero_add]
    rw [hb]
    unfold strB
    rw [List.getD_eq_getElem?_getD, List.getElem?_map, List.getElem?_eq_getElem (by simpa using hj)]
    rfl
theorem write_own (sb g cap : Nat) (cur : List Value) (m ys : List Nat) (r : Nat → Nat) (hr : xDm m r) (hbig : m.length + ys.length < 1000000000000) (ho : OwnOk cap cur ys) (hR : Rep B0 w0 ((g, .cells cur.toArray 5) :: (sb, sumC m r) :: L) w) :
    Calls Tryz.prog 85 #[.pointer (some ⟨sb, 0, none⟩), .slice (some ⟨g, 0, none⟩) ys.length cap] w fun e w' => e = .returned (.int .i64 0) ∧ ∃ r', xDm (m ++ ys) r' ∧ Rep B0 w0 ((sb, sumC (m ++ ys) r') :: L) w' :=
  (write_any sb m ys r _ hr hbig (own_slice ho) hR.swap').mono fun e w' ⟨h1, r', h2, h3⟩ => ⟨h1, r', h2, h3.weaken ((List.sublist_cons_self _ _).cons_cons _)⟩
theorem encR_le (xss : List (List Nat)) (hb : ∀ j, j < xss.length → (xss.getD j []).length ≤ 1048576) : ∀ i, i ≤ xss.length → (encR xss i).length ≤ i * 1048580
  | 0, _ => Nat.zero_le _
  | i + 1, h => by
    have := encR_le xss hb i (by omega)
    have := hb i (by omega)
    rw [encR_succ xss (by omega), List.length_append, List.length_append, xBr]
    omega
set_option maxRecDepth 100000 in
set_option maxHeartbeats 8000000 in
theorem hashes_of (s : ByteArray) (v : Value) (xss : List (List Nat)) (hs : s.size ≤ 100000) (h200 : xss.length ≤ 1000) (hb : ∀ j, j < xss.length → (xss.getD j []).length ≤ 1048576) (hv : RowsOf B0 w0 L v xss) (hR : Rep B0 w0 L w) :
    Calls Tryz.prog 55 #[.string s, v] w fun e w' => e = .returned (.agg (u8s 32 (hashF (encB (strB s) xss))).toArray) ∧ Rep B0 w0 L w' := by
  obtain ⟨a, cp, V, rfl, h1, h2, h4, h5⟩ := hv
  obtain ⟨N, hN⟩ : ∃ N, xss.length = N := ⟨_, rfl⟩
  rw [hN] at h1 h200 hb h4 h5 ⊢
  have fN : IntKind.u64.wrap (N : Int) = (N : Int) := by rw [IntKind.wrap_u64]; omega
  have enc : encB (strB s) xss = encH (strB s) N ++ encR xss N := by unfold encB; rw [hN]
  have ele : ∀ i, i ≤ N → (encR xss i).length ≤ i * 1048580 := fun i hi => encR_le xss (by rw [hN]; exact hb) i (by rw [hN]; exact hi)
  have hle : (encH (strB s) N).length ≤ 200000 := by unfold encH; rw [List.length_append, List.length_append, xBr, xBr, xCo]; omega
  obtain ⟨ys1, hy1⟩ : ∃ ys, [] ++ beL 4 (strB s).length ++ strB s = ys := ⟨_, rfl⟩
  obtain ⟨ys2, hy2⟩ : ∃ ys, [] ++ beL 4 N = ys := ⟨_, rfl⟩
  have cp1 := fun (L' : List (Nat × Obj)) (v' : Value) (w' : World) (hv : xBo B0 w0 L' v' (strB s)) (hR : Rep B0 w0 L' w') => put_bytes (.slice none 0 0) v' [] (strB s) (by rw [xCo]; simp; omega) sliceOf_nil hv hR
  have cp2 := fun (L' : List (Nat × Obj)) (w' : World) (hR : Rep B0 w0 L' w') => put_word (.slice none 0 0) [] N (by omega) (by simp) sliceOf_nil hR
  rw [hy1] at cp1
  rw [hy2] at cp2
  have l1 : ys1.length ≤ 200000 := by rw [← hy1, List.length_append, List.length_append, xBr, xCo]; simp; omega
  have l2 : ys2.length ≤ 4 := by rw [← hy2, List.length_append, xBr]; simp
  have hm2 : encH (strB s) N = ([] ++ ys1) ++ ys2 := by rw [← hy1, ← hy2]; unfold encH; simp
  have cw1 := fun (sb g cap : Nat) (cur : List Value) (r : Nat → Nat) (L' : List (Nat × Obj)) (w' : World) (hr : xDm [] r) (ho : OwnOk cap cur ys1) (hR : Rep B0 w0 ((g, .cells cur.toArray 5) :: (sb, sumC [] r) :: L') w') => write_own sb g cap cur [] ys1 r hr (by simp; omega) ho hR
  have cw2 := fun (sb g cap : Nat) (cur : List Value) (r : Nat → Nat) (L' : List (Nat × Obj)) (w' : World) (hr : xDm ([] ++ ys1) r) (ho : OwnOk cap cur ys2) (hR : Rep B0 w0 ((g, .cells cur.toArray 5) :: (sb, sumC ([] ++ ys1) r) :: L') w') => write_own sb g cap cur ([] ++ ys1) ys2 r hr (by simp; omega) ho hR
  rw [← hm2] at cw2
  obtain ⟨m2, hm⟩ : ∃ m, encH (strB s) N = m := ⟨_, rfl⟩
  obtain ⟨m1, hm1⟩ : ∃ m, [] ++ ys1 = m := ⟨_, rfl⟩
  rw [hm] at cw2 hle enc
  rw [hm1] at cw1 cw2
  rw [enc]
  replace hN := Held.mk hN
  replace h4 := Held.mk h4
  replace h5 := Held.mk h5
  replace hb := Held.mk hb
  clear hy1 hy2 l1 l2 hm2 hm hm1 enc
  go_enter Tryz.func55, Tryz.ntmps55
  go_wp2_with (first | (refine' xAb hR rfl rfl rfl ?_; clear hR; intro blk w hR) | (refine' xAa hR rfl rfl inferInstance ?_; clear hR; intro blk w hR) | (refine' aFq hR rfl rfl rfl inferInstance ?_) | (refine' aGq hR rfl rfl rfl inferInstance ?_) | (refine' aHq hR rfl rfl rfl inferInstance ?_) | (refine' aDq hR rfl rfl rfl inferInstance rfl ?_; clear hR; intro w hR) | (refine' aEq hR rfl rfl rfl inferInstance rfl rfl ?_; clear hR; intro w hR) | (go_at_call 84; refine (new_any hR).mono ?_; clear hR; rintro e w ⟨sb, rfl, hR⟩) | (refine' wpList_strBytes hR rfl rfl rfl (by omega) ?_; clear hR; intro cb cap0 arr fz w hS hR; replace hS := Held.mk hS) | (go_at_call 86; refine (cp1 _ _ _ (hS.out _ (.head _)) hR).mono ?_; clear hR hS cp1; rintro e w ⟨g, cap, rfl, cur, ho, hR⟩; replace ho := Held.mk ho; replace hR := hR.weaken ((List.sublist_cons_self _ _).cons_cons _)) | (go_at_call 85; refine (cw1 _ _ _ _ _ _ _ tail_nil ho.out hR).mono ?_; clear hR ho cw1; rintro e w ⟨rfl, r1, ht1, hR⟩; replace ht1 := Held.mk ht1) | (go_at_call 87; refine (cp2 _ _ hR).mono ?_; clear hR cp2; rintro e w ⟨g, cap, rfl, cur, ho, hR⟩; replace ho := Held.mk ho) | (go_at_call 85; refine (cw2 _ _ _ _ _ _ _ ht1.out ho.out hR).mono ?_; clear hR ho cw2 ht1; rintro e w ⟨rfl, r2, ht2, hR⟩; replace ht2 := Held.mk ht2))
  refine' xCc (false :: false :: false :: false :: false :: false :: false :: true :: false :: false :: false :: false :: false :: false :: false :: false :: false :: false :: false :: false :: false :: false :: false :: true :: true :: true :: true :: true :: true :: true :: true :: true :: true :: true :: true :: true :: false :: false :: []) (fun (x : Nat × (Nat → Nat)) l => l.set 22 (.int .i64 (x.1 : Int))) (fun x => (sb, sumC (m2 ++ encR xss x.1) x.2) :: (blk, .cells (u8s 32 fun _ => 0).toArray 28) :: L) (fun x => N - x.1) (fun x => x.1 ≤ N ∧ xDm (m2 ++ encR xss x.1) x.2) (0, r2) ?h0 ?hO ?hR ?hs
  case h0 => exact xAu rfl rfl rfl
  case hO => exact ⟨Nat.zero_le _, by show xDm (m2 ++ encR xss 0) r2; rw [encR_zero, List.append_nil]; exact ht2.out⟩
  case hR =>
    show Rep B0 w0 ((sb, sumC (m2 ++ encR xss 0) r2) :: _) w
    rw [encR_zero, List.append_nil]; exact hR
  case hs =>
    clear hR ht2
    intro x tm w hO ht hR K hK
    obtain ⟨i, r⟩ := x
    obtain ⟨hi, htl⟩ := hO
    simp only at hi htl ht hR
    have g0 : 0 ≤ (i : Int) := by omega
    have hli := ele i hi
    by_cases hiN : i = N
    · have hiN' := hiN.symm
      clear hiN
      subst hiN'
      clear hK
      have t1 : ¬ (N : Int) < (N : Int) := by omega
      have hlm : (m2 ++ encR xss N).length < 100000000000 := by rw [List.length_append]; omega
      have ch := fun (w : World) (hR : Rep B0 w0 ((sb, sumC (m2 ++ encR xss N) r) :: (blk, .cells (u8s 32 fun _ => 0).toArray 28) :: L) w) => hash_F sb (m2 ++ encR xss N) r htl hlm hR
      generalize hmm : m2 ++ encR xss N = m at *
      generalize hoo : hashF m = out at *
      replace hmm := Held.mk hmm
      replace hoo := Held.mk hoo
      have hone := u8s_one 32 out
      clear htl hlm ele hli hi
      repeat (first | (obtain ⟨x, tm', e, ht'⟩ := xAf ht; clear ht; subst e; have ht := ht'; clear ht') | (obtain ⟨tm', e, ht'⟩ := xAc ht; clear ht; subst e; have ht := ht'; clear ht'))
      obtain rfl := xAk ht
      clear ht
      go_wp2_with (first | (refine' xAb hR rfl rfl rfl ?_; clear hR; intro blk w hR) | (refine' xAa hR rfl rfl inferInstance ?_; clear hR; intro blk w hR) | (refine' aFq hR rfl rfl rfl inferInstance ?_) | (refine' aGq hR rfl rfl rfl inferInstance ?_) | (refine' aHq hR rfl rfl rfl inferInstance ?_) | (refine' aDq hR rfl rfl rfl inferInstance rfl ?_; clear hR; intro w hR) | (refine' aEq hR rfl rfl rfl inferInstance rfl rfl ?_; clear hR; intro w hR) | (go_at_call 88; refine (ch _ hR).mono ?_; clear hR; rintro e w ⟨rfl, hR⟩))
      (refine' bodyPost_ret (xBq Tryz.results55 rfl (hR.loadAll (P := Tryz.prog) (ty := 28) ?hm ?hn)) rfl ⟨by rw [hmm.out, hoo.out], hR.drop1.drop1⟩; (case hm => exact .tail _ (.head _)); (case hn => simp))
    · have g1 : (i : Int) < (N : Int) := by omega
      obtain ⟨hS, hlen⟩ := h4.out i (by omega)
      have hx : xss ≠ [] := fun h => by
        have := hN.out
        rw [h] at this
        have : N = 0 := this.symm
        omega
      obtain ⟨bb, off, rfl, h6⟩ := h5.out hx
      have hld := cell_load (ty := 49) (h6 w hR.drop1.drop1 i (by omega))
      have hbi := hb.out i (by omega)
      have es := encR_succ xss (i := i) (by have := hN.out; omega)
      generalize V i = vi at *
      generalize hxs : xss.getD i [] = xs at *
      obtain ⟨av, cv, rfl, q1, q2, q3, q4⟩ := hS
      have hS : xBo B0 w0 L (.slice av xs.length cv) xs := ⟨av, cv, rfl, q1, q2, q3, q4⟩
      have hlm : (m2 ++ encR xss i).length ≤ 2000000000 := by rw [List.length_append]; omega
      have fn : IntKind.u64.wrap (xs.length : Int) = (xs.length : Int) := by rw [IntKind.wrap_u64]; omega
      have ei : IntKind.i64.wrap ((i : Int) + 1) = ((i + 1 : Nat) : Int) := by rw [IntKind.wrap_i64]; omega
      obtain ⟨ys, hys⟩ : ∃ ys, [] ++ beL 4 xs.length = ys := ⟨_, rfl⟩
      have hyl : ys.length ≤ 4 := by rw [← hys, List.length_append, xBr]; simp
      have cp := fun (L' : List (Nat × Obj)) (w' : World) (hR : Rep B0 w0 L' w') => put_word (.slice none 0 0) [] xs.length (by omega) (by simp) sliceOf_nil hR
      rw [hys] at cp
      have em : m2 ++ encR xss (i + 1) = (m2 ++ encR xss i) ++ ys ++ xs := by rw [es, ← hys]; simp
      generalize m2 ++ encR xss i = m at *
      have cw1 := fun (g cap : Nat) (cur : List Value) (w' : World) (ho : OwnOk cap cur ys) (hR : Rep B0 w0 ((g, .cells cur.toArray 5) :: (sb, sumC m r) :: (blk, .cells (u8s 32 fun _ => 0).toArray 28) :: L) w') => write_own sb g cap cur m ys r htl (by omega) ho hR
      have cw2 := fun (r' : Nat → Nat) (w' : World) (hr : xDm (m ++ ys) r') (hR : Rep B0 w0 ((sb, sumC (m ++ ys) r') :: (blk, .cells (u8s 32 fun _ => 0).toArray 28) :: L) w') => write_any sb (m ++ ys) xs r' _ hr (by rw [List.length_append]; omega) hS.more hR
      generalize xs.length = n at *
      have hi1 : i + 1 ≤ N := by omega
      have hmu : N - (i + 1) < N - i := by omega
      replace hi1 := Held.mk hi1
      replace hmu := Held.mk hmu
      replace em := Held.mk em
      clear h6 hS q1 q2 q3 q4 htl hyl hys hlm es ele hli hi hxs
      repeat (first | (obtain ⟨x, tm', e, ht'⟩ := xAf ht; clear ht; subst e; have ht := ht'; clear ht') | (obtain ⟨tm', e, ht'⟩ := xAc ht; clear ht; subst e; have ht := ht'; clear ht'))
      obtain rfl := xAk ht
      clear ht
      go_wp2_with (first | (refine' xAb hR rfl rfl rfl ?_; clear hR; intro blk w hR) | (refine' xAa hR rfl rfl inferInstance ?_; clear hR; intro blk w hR) | (refine' aFq hR rfl rfl rfl inferInstance ?_) | (refine' aGq hR rfl rfl rfl inferInstance ?_) | (refine' aHq hR rfl rfl rfl inferInstance ?_) | (refine' aDq hR rfl rfl rfl inferInstance rfl ?_; clear hR; intro w hR) | (refine' aEq hR rfl rfl rfl inferInstance rfl rfl ?_; clear hR; intro w hR) | (refine' xCg rfl rfl rfl hld ?_) | (go_at_call 87; refine (cp _ _ hR).mono ?_; clear hR cp; rintro e w ⟨g, cap, rfl, cur, ho, hR⟩; replace ho := Held.mk ho) | (go_at_call 85; refine (cw1 _ _ _ _ ho.out hR).mono ?_; clear hR ho cw1; rintro e w ⟨rfl, r1, ht1, hR⟩; replace ht1 := Held.mk ht1) | (go_at_call 85; refine (cw2 _ _ ht1.out hR).mono ?_; clear hR cw2; rintro e w ⟨rfl, r2, ht2, hR⟩; replace ht2 := Held.mk ht2))
      refine hK.out (i + 1, r2) _ _ ⟨hi1.out, ?_⟩ hmu.out (xAu rfl rfl rfl) ?_
      · show xDm (m2 ++ encR xss (i + 1)) r2
        rw [em.out]; exact ht2.out
      · show Rep B0 w0 ((sb, sumC (m2 ++ encR xss (i + 1)) r2) :: _) _
        rw [em.out]; exact hR
end
end Go.Proofs.YtgfoeongjhkdmaaGreat
namespace Go.Proofs.YtgfoeongjhkdmaaGreat
open Go.RowKit
attribute [local irreducible] Calls
noncomputable def putL (z : Nat → Nat) : Nat → Nat := opq fun j => beF 8 (z (j / 8)) (j % 8)
theorem putL_def (z : Nat → Nat) (j : Nat) : putL z j = beF 8 (z (j / 8)) (j % 8) := by unfold putL; rw [xCe]
theorem putL_at (z : Nat → Nat) (k t : Nat) (h : t < 8) : putL z (8 * k + t) = beF 8 (z k) t := by
  rw [putL_def, show (8 * k + t) / 8 = k by omega, show (8 * k + t) % 8 = t by omega]
theorem putL_lt (z : Nat → Nat) (j : Nat) : putL z j < 256 := by rw [putL_def, beF_def]; exact Nat.mod_lt _ (by decide)
noncomputable def long32 (z : Nat → Nat) : List Nat := (List.range 32).map (putL z)
theorem xDj (z : Nat → Nat) : (long32 z).length = 32 := by simp [long32]
theorem long32_at (z : Nat → Nat) {j : Nat} (h : j < 32) : (long32 z).getD j 0 = putL z j := by
  unfold long32; rw [List.getD_eq_getElem?_getD, List.getElem?_map, List.getElem?_range h]; rfl
theorem long32_lt (z : Nat → Nat) (j : Nat) : (long32 z).getD j 0 < 256 := by
  by_cases h : j < 32
  · rw [long32_at z h]; exact putL_lt z j
  · rw [List.getD_eq_getElem?_getD, List.getElem?_eq_none (by rw [xDj]; omega)]; exact (by decide : 0 < 256)
section
variable {B0 : Nat} {w0 w : World} {L : List (Nat × Obj)}
set_option maxRecDepth 100000 in
set_option maxHeartbeats 4000000 in
theorem put_four (z : Nat → Nat) (hz : ∀ k, z k < 18446744073709551616) (wb : Nat) (hw : ∀ w, Rep B0 w0 L w → ∀ k, k < 4 → w.cell? ⟨wb, k, none⟩ = some (.int .u64 (z k : Int))) (hR : Rep B0 w0 L w) :
    Calls Tryz.prog 59 #[.slice none 0 0, .int .i64 8, .slice (some ⟨wb, 0, none⟩) 4 4] w fun e w' => Fresh B0 w0 L e w' (long32 z) := by
  obtain ⟨i0, hi, hz0, hz1, hz2⟩ := info_parts info_u8
  obtain ⟨l0, hl0, hmk0⟩ := make_nc 0 32 (by decide) (by decide)
  have hmk : ∀ w, (Instr.makeSlice 49 (.int .i64 0) (.int .i64 32)).run Tryz.prog w = .ok (.slice (some ⟨w.heap.size, 0, none⟩) 0 32) (w.alloc (.cells l0.toArray 5)) := hmk0
  clear hmk0
  have hv0 : xBo B0 w0 L (.slice none 0 0) [] := sliceOf_nil
  have hN : ([] : List Nat).length = 0 := rfl
  have hNM : 0 ≤ l0.length := Nat.zero_le _
  replace hw := Held.mk hw
  replace hl0 := Held.mk hl0
  replace hv0 := Held.mk hv0
  replace hN := Held.mk hN
  go_enter Tryz.func59, Tryz.ntmps59
  go_wp2_with (first | (refine' xAb hR rfl rfl rfl ?_; clear hR; intro blk w hR) | (refine' xAa hR rfl rfl inferInstance ?_; clear hR; intro blk w hR) | (refine' aFq hR rfl rfl rfl inferInstance ?_) | (refine' aGq hR rfl rfl rfl inferInstance ?_) | (refine' aHq hR rfl rfl rfl inferInstance ?_) | (refine' aDq hR rfl rfl rfl inferInstance rfl ?_; clear hR; intro w hR) | (refine' aEq hR rfl rfl rfl inferInstance rfl rfl ?_; clear hR; intro w hR) | (refine' wpList_makeRep hR rfl rfl rfl rfl hmk ?_; clear hR; intro blk w hR) | (refine' wpList_copyOf hR rfl rfl rfl rfl hv0.out hN.out hNM ?_; clear hR; intro cur w k1 k2 hR))
  have hk1 : cur.length = 32 := by rw [k1, hl0.out]
  clear k1 k2 hNM hmk hv0 hN hl0
  refine' xCc (false :: false :: false :: false :: false :: false :: false :: false :: false :: true :: true :: false :: false :: false :: false :: false :: false :: false :: false :: false :: false :: false :: false :: false :: false :: false :: false :: true :: true :: true :: true :: true :: true :: true :: true :: true :: true :: true :: true :: true :: true :: true :: true :: true :: true :: true :: true :: false :: []) (fun (x : Nat × Buf) l => (l.set 7 (.slice (some ⟨x.2.g, 0, none⟩) x.2.i x.2.cap)).set 26 (.int .i64 (x.1 : Int))) (fun x => (x.2.g, .cells x.2.cur.toArray 5) :: L) (fun x => 4 - x.1) (fun y => (y.1 ≤ 4 ∧ y.2.i = 8 * y.1) ∧ BufOk y.2.i (putL z) y.2) (0, ⟨0, blk, 32, cur⟩) ?h0 ?hO ?hR ?hs
  case h0 => exact xAu rfl rfl rfl
  case hO => exact ⟨⟨Nat.zero_le _, rfl⟩, Nat.zero_le _, by show 32 ≤ _; unfold maxLen; decide, hk1, by show cur.take 0 = u8s 0 _; rw [xCu]; rfl⟩
  case hR => exact hR
  case hs =>
    clear hR hk1
    intro y tm w hO ht hR K hK
    obtain ⟨k, n, g, cap, cur⟩ := y
    obtain ⟨⟨k4, hkn⟩, ⟨ble, bbig, blen, bis⟩⟩ := hO
    simp only at k4 hkn ble bbig blen bis ht hR
    have c0 : 0 ≤ (k : Int) := by omega
    by_cases hk4 : k = 4
    · have e8 : ((4 : Nat) : Int) = 4 := rfl
      subst hk4
      rw [e8] at ht
      clear hK e8
      obtain rfl : n = 32 := hkn
      replace bis := Held.mk bis
      replace blen := Held.mk blen
      repeat (first | (obtain ⟨x, tm', e, ht'⟩ := xAf ht; clear ht; subst e; have ht := ht'; clear ht') | (obtain ⟨tm', e, ht'⟩ := xAc ht; clear ht; subst e; have ht := ht'; clear ht'))
      obtain rfl := xAk ht
      clear ht
      go_wp2_with (first | (refine' xAb hR rfl rfl rfl ?_; clear hR; intro blk w hR) | (refine' xAa hR rfl rfl inferInstance ?_; clear hR; intro blk w hR) | (refine' aFq hR rfl rfl rfl inferInstance ?_) | (refine' aGq hR rfl rfl rfl inferInstance ?_) | (refine' aHq hR rfl rfl rfl inferInstance ?_) | (refine' aDq hR rfl rfl rfl inferInstance rfl ?_; clear hR; intro w hR) | (refine' aEq hR rfl rfl rfl inferInstance rfl rfl ?_; clear hR; intro w hR) | fail)
      go_ret
      refine ⟨g, cap, by rw [xDj]; rfl, cur, ⟨by rw [xDj]; exact ble, bbig, blen.out, by rw [xDj, bis.out]; exact u8s_congr fun j hj => (long32_at z hj).symm, long32_lt z⟩, hR⟩
    · have c1 : (k : Int) < 4 := by omega
      obtain ⟨M, hM⟩ : ∃ M, n + 8 = M := ⟨_, rfl⟩
      have hld : (loadVar 22 ⟨wb, k, none⟩).run Tryz.prog w = .ok (.int .u64 (z k : Int)) w := cell_load (ty := 22) (hw.out w hR.drop1 k (by omega))
      have hzk := hz k
      have hat := fun t (ht : t < 8) => putL_at z k t ht
      obtain ⟨zk, hx⟩ : ∃ x, z k = x := ⟨_, rfl⟩
      rw [hx] at hld hzk hat
      have ek1 : IntKind.i64.wrap ((k : Int) + 1) = ((k + 1 : Nat) : Int) := by rw [IntKind.wrap_i64]; omega
      have hM2 : M = 8 * (k + 1) := by omega
      have hM3 : M ≤ 32 := by omega
      replace bis := Held.mk bis
      replace blen := Held.mk blen
      replace hM := Held.mk hM
      replace hM2 := Held.mk hM2
      replace hM3 := Held.mk hM3
      replace hkn := Held.mk hkn
      replace hx := Held.mk hx
      replace hat := Held.mk hat
      replace ek1 := Held.mk ek1
      repeat (first | (obtain ⟨x, tm', e, ht'⟩ := xAf ht; clear ht; subst e; have ht := ht'; clear ht') | (obtain ⟨tm', e, ht'⟩ := xAc ht; clear ht; subst e; have ht := ht'; clear ht'))
      obtain rfl := xAk ht
      clear ht
      go_wp2_with (first | (refine' xAb hR rfl rfl rfl ?_; clear hR; intro blk w hR) | (refine' xAa hR rfl rfl inferInstance ?_; clear hR; intro blk w hR) | (refine' aFq hR rfl rfl rfl inferInstance ?_) | (refine' aGq hR rfl rfl rfl inferInstance ?_) | (refine' aHq hR rfl rfl rfl inferInstance ?_) | (refine' aDq hR rfl rfl rfl inferInstance rfl ?_; clear hR; intro w hR) | (refine' aEq hR rfl rfl rfl inferInstance rfl rfl ?_; clear hR; intro w hR) | (refine' xCg rfl rfl rfl hld ?_))
      clear hld
      have blen0 := blen.out
      refine' xCc (false :: false :: false :: false :: false :: false :: false :: false :: false :: false :: true :: false :: false :: false :: false :: false :: false :: false :: false :: false :: false :: false :: false :: false :: false :: false :: false :: false :: false :: false :: false :: false :: true :: true :: true :: true :: true :: true :: true :: true :: true :: true :: true :: true :: true :: true :: false :: false :: []) (fun (b : Buf) l => (l.set 7 (.slice (some ⟨b.g, 0, none⟩) b.i b.cap)).set 31 (.int .i64 ((b.i : Int) - (n : Nat)))) (fun b => (b.g, .cells b.cur.toArray 5) :: L) (fun b => M - b.i) (fun b => (n ≤ b.i ∧ b.i ≤ M) ∧ BufOk b.i (putL z) b) ⟨n, g, cap, cur⟩ ?i0 ?iO ?iR ?iS
      case i0 =>
        simp only [Int.sub_self]
        exact xAu rfl rfl rfl
      case iO => exact ⟨⟨Nat.le_refl _, by show n ≤ M; have := hM.out; omega⟩, ble, bbig, blen.out, bis.out⟩
      case iR => exact hR
      case iS =>
        clear hR ble bbig blen bis blen0
        intro b tm w hO ht hR K2 hK2
        obtain ⟨i, g, cap, cur⟩ := b
        obtain ⟨⟨h1n, hn1⟩, ⟨ble, bbig, blen, bis⟩⟩ := hO
        simp only at h1n hn1 ble bbig blen bis ht hR
        obtain ⟨t, hk⟩ : ∃ k, i = n + k := ⟨i - n, by omega⟩
        have ek : (i : Int) - (n : Nat) = (t : Int) := by omega
        rw [ek] at ht
        have g0 : 0 ≤ (t : Int) := by omega
        by_cases hl8 : t = 8
        · subst hl8
          obtain rfl : i = M := by have := hM.out; omega
          clear hK2
          replace hk := Held.mk hk
          replace ek := Held.mk ek
          replace bis := Held.mk bis
          replace blen := Held.mk blen
          have e8 : ((8 : Nat) : Int) = 8 := rfl
          rw [e8] at ht
          clear e8
          have ek2 := ek1.out
          repeat (first | (obtain ⟨x, tm', e, ht'⟩ := xAf ht; clear ht; subst e; have ht := ht'; clear ht') | (obtain ⟨tm', e, ht'⟩ := xAc ht; clear ht; subst e; have ht := ht'; clear ht'))
          obtain rfl := xAk ht
          clear ht
          go_wp2_with (first | (refine' xAb hR rfl rfl rfl ?_; clear hR; intro blk w hR) | (refine' xAa hR rfl rfl inferInstance ?_; clear hR; intro blk w hR) | (refine' aFq hR rfl rfl rfl inferInstance ?_) | (refine' aGq hR rfl rfl rfl inferInstance ?_) | (refine' aHq hR rfl rfl rfl inferInstance ?_) | (refine' aDq hR rfl rfl rfl inferInstance rfl ?_; clear hR; intro w hR) | (refine' aEq hR rfl rfl rfl inferInstance rfl rfl ?_; clear hR; intro w hR) | fail)
          exact hK.out (k + 1, ⟨i, g, cap, cur⟩) _ _ ⟨⟨by show k + 1 ≤ 4; omega, hM2.out⟩, ble, bbig, blen.out, bis.out⟩ (by show 4 - (k + 1) < 4 - k; omega) (xAu rfl rfl rfl) hR
        · have g1 : (t : Int) < 8 := by have := hM.out; omega
          have t7 : t < 8 := by omega
          obtain ⟨d, hd⟩ : ∃ x, 7 - t = x := ⟨_, rfl⟩
          obtain ⟨sh, hsh⟩ : ∃ x, 8 * d = x := ⟨_, rfl⟩
          have e2 : IntKind.i64.wrap (7 - (t : Int)) = (d : Int) := by rw [IntKind.wrap_i64]; omega
          have e3 : IntKind.i64.wrap (8 * (d : Int)) = (sh : Int) := by rw [IntKind.wrap_i64]; omega
          have g2 : 0 ≤ (sh : Int) := by omega
          have g3 : (sh : Int) < 64 := by omega
          obtain ⟨v, hv⟩ : ∃ v, putL z i = v := ⟨_, rfl⟩
          have e4 : IntKind.u8.wrap ((zk : Int) / 2 ^ sh) = (v : Int) := by
            rw [← hv, hk, hkn.out, hat.out t t7, beF_def, show 8 - 1 - t = d by omega, hsh, IntKind.wrap_u8]
            simp
          have g4 : IntKind.i64.wrap ((t : Int) + 1) = (t : Int) + 1 := by rw [IntKind.wrap_i64]; omega
          have hn63 : i + 1 ≤ maxLen := by unfold maxLen; have := hM3.out; omega
          have hnb2 : (i + 1) * 1 ≤ 140737488355328 := by have := hM3.out; omega
          have ek2 : ((i + 1 : Nat) : Int) - (n : Nat) = (t : Int) + 1 := by omega
          have hiM : i + 1 ≤ M := by have := hM.out; omega
          have hni : n ≤ i + 1 := by omega
          have hmu : M - (i + 1) < M - i := by omega
          replace hk := Held.mk hk
          replace hd := Held.mk hd
          replace hsh := Held.mk hsh
          replace hv := Held.mk hv
          replace bis := Held.mk bis
          replace blen := Held.mk blen
          replace ek2 := Held.mk ek2
          replace ek := Held.mk ek
          replace hiM := Held.mk hiM
          replace hni := Held.mk hni
          replace hmu := Held.mk hmu
          repeat (first | (obtain ⟨x, tm', e, ht'⟩ := xAf ht; clear ht; subst e; have ht := ht'; clear ht') | (obtain ⟨tm', e, ht'⟩ := xAc ht; clear ht; subst e; have ht := ht'; clear ht'))
          obtain rfl := xAk ht
          clear ht
          go_wp2_with (first | (refine' xAb hR rfl rfl rfl ?_; clear hR; intro blk w hR) | (refine' xAa hR rfl rfl inferInstance ?_; clear hR; intro blk w hR) | (refine' aFq hR rfl rfl rfl inferInstance ?_) | (refine' aGq hR rfl rfl rfl inferInstance ?_) | (refine' aHq hR rfl rfl rfl inferInstance ?_) | (refine' aDq hR rfl rfl rfl inferInstance rfl ?_; clear hR; intro w hR) | (refine' aEq hR rfl rfl rfl inferInstance rfl rfl ?_; clear hR; intro w hR) | (refine' xBp hR rfl rfl rfl (xCw _) ?_; clear hR; intro bt w hR) | (refine' xCd hR rfl rfl Tryz.underlying49 hi hz0 hz1 hz2 rfl rfl rfl ble bbig blen.out rfl hn63 hnb2 ?_; clear hR; intro g' cap' cur' w hR c1 c2 c3 c4))
          refine hK2.out ⟨i + 1, g', cap', cur'⟩ _ _ ⟨⟨hni.out, hiM.out⟩, c1, c2, c3, ?_⟩ hmu.out (by simp only [ek2.out]; exact xAu rfl rfl rfl) hR
          show cur'.take (i + 1) = u8s (i + 1) (putL z)
          rw [c4, bis.out, u8s_succ, hv.out]
set_option maxRecDepth 100000 in
set_option maxHeartbeats 4000000 in
theorem reverse_four {b : Nat} (x0 x1 x2 x3 : Int) (hR : Rep B0 w0 ((b, .cells [Value.int .u64 x0, .int .u64 x1, .int .u64 x2, .int .u64 x3].toArray 24) :: L) w) :
    Calls Tryz.prog 58 #[.slice (some ⟨b, 0, none⟩) 4 4] w fun e w' => e = .returned (.tuple #[]) ∧ Rep B0 w0 ((b, .cells [Value.int .u64 x3, .int .u64 x2, .int .u64 x1, .int .u64 x0].toArray 24) :: L) w' := by
  go_enter Tryz.func58, Tryz.ntmps58
  go_wp2_with (first | (refine' xAb hR rfl rfl rfl ?_; clear hR; intro blk w hR) | (refine' xAa hR rfl rfl inferInstance ?_; clear hR; intro blk w hR) | (refine' aFq hR rfl rfl rfl inferInstance ?_) | (refine' aGq hR rfl rfl rfl inferInstance ?_) | (refine' aHq hR rfl rfl rfl inferInstance ?_) | (refine' aDq hR rfl rfl rfl inferInstance rfl ?_; clear hR; intro w hR) | (refine' aEq hR rfl rfl rfl inferInstance rfl rfl ?_; clear hR; intro w hR) | fail)
  refine wp_loop_rounds 3 ?_
  rw [rounds_succ]
  go_wp2_with (first | (refine' xAb hR rfl rfl rfl ?_; clear hR; intro blk w hR) | (refine' xAa hR rfl rfl inferInstance ?_; clear hR; intro blk w hR) | (refine' aFq hR rfl rfl rfl inferInstance ?_) | (refine' aGq hR rfl rfl rfl inferInstance ?_) | (refine' aHq hR rfl rfl rfl inferInstance ?_) | (refine' aDq hR rfl rfl rfl inferInstance rfl ?_; clear hR; intro w hR) | (refine' aEq hR rfl rfl rfl inferInstance rfl rfl ?_; clear hR; intro w hR) | fail)
  refine xAg hR [1, 1, 1, 1, 1, 1, 1, 0, 1, 1, 1, 0, 1, 2, 2, 2] [] xCt (by kernel_rfl) rfl rfl (fun K hK => ?_)
  clear hR
  repeat ((first | (refine xBj ?_) | (refine' xAs (by decide) rfl (.inl rfl) rfl ?ha ?_) | (refine' xAs (by decide) rfl (.inr rfl) rfl ?ha ?_) | (refine' xAr rfl rfl rfl inferInstance ?hm ?hn ?ha ?_; (case hm => first | with_reducible assumption | repeat (first | exact .head _ | with_reducible assumption | apply mC)); (case hn => first | rfl | simp)) | (refine' xAm rfl rfl rfl inferInstance ?hm ?hv ?hn ?ha ?_; (case hm => first | with_reducible assumption | repeat (first | exact .head _ | with_reducible assumption | apply mC)); (case hv => first | with_reducible assumption | (simp only [kC, kD, kE, kF]; try rfl)); (case hn => first | rfl | simp)) | (refine' xAi rfl rfl rfl inferInstance ?hm ?hv ?ha ?_; (case hm => first | with_reducible assumption | repeat (first | exact .head _ | with_reducible assumption | apply mC)); (case hv => first | rfl | with_reducible assumption)) | (refine' xAn rfl rfl rfl inferInstance ?hm ?hv ?hn ?ha ?_; (case hm => first | with_reducible assumption | repeat (first | exact .head _ | with_reducible assumption | apply mC)); (case hv => first | with_reducible assumption | (simp only [kC, kD, kE, kF]; try rfl)); (case hn => first | rfl | simp)) | (refine' xAj rfl rfl rfl inferInstance ?hm ?hv ?ha ?_; (case hm => first | with_reducible assumption | repeat (first | exact .head _ | with_reducible assumption | apply mC)); (case hv => first | rfl | with_reducible assumption)) | ((first | refine' xAd (by decide) rfl rfl rfl rfl (fun w => ?hq) ?ha ?_ | refine' xBf (by decide) rfl rfl rfl rfl (fun w => ?hq) ?ha ?_ | refine' xAp (by decide) rfl rfl rfl (fun w => ?hq) ?ha ?_ | refine' xAe (by decide) rfl rfl rfl (fun w => ?hq) ?ha ?_ | refine' xAo (by decide) rfl rfl rfl (fun w => ?hq) ?ha ?_ | refine' xBd (by decide) rfl rfl rfl rfl (fun w => ?hq) ?ha ?_ | refine' xBc (by decide) rfl rfl rfl rfl rfl rfl (fun w => ?hq) ?ha ?_ | refine' xBb (by decide) rfl rfl (fun w => ?hq) ?ha ?_ | refine' xAq (by decide) rfl rfl rfl (fun w => ?hq) ?ha ?_ | refine' xBe (by decide) rfl rfl rfl (fun w => ?hq) ?ha ?_); (case hq => go_simp; try rfl)) | (refine' xAh (by decide) rfl rfl rfl ?ha ?_) | (refine' xBl (by decide) rfl rfl rfl rfl ?ha ?_) | (refine' xBk (by decide) rfl ?ha ?_) | fail); try (case ha => simp only [kP, kQ, kA, kB]; try rfl))
  refine xBs (hK _ _ ?_)
  clear hK K
  refine xBx (fun Q hQ => ?_)
  try simp only [List.nil_append, List.cons_append]
  repeat ((first | refine' xBa rfl (.inl rfl) rfl ?hk ?ha ?_ | refine' xBa rfl (.inr rfl) rfl ?hk ?ha ?_ | (refine' xAv rfl rfl rfl inferInstance rfl ?hs rfl rfl ?hn ?hk ?ha ?_; (case hs => repeat (first | exact xAx.head | apply xAx.tail)); (case hn => first | rfl | simp)) | (refine' xAl rfl rfl rfl inferInstance rfl rfl ?hs ?hn ?hl ?hk ?ha ?_; (case hs => repeat (first | exact xAx.head | apply xAx.tail)); (case hn => first | exact oD rfl | (show _ < 4; with_reducible assumption) | (simp; try omega)); (case hl => first | with_reducible assumption | (simp only [nl, kA, kB]; first | done | rfl) | rfl)) | (refine' xAw rfl rfl rfl inferInstance rfl rfl ?hvn ?hs ?hn ?hl ?hk ?ha ?_; (case hvn => first | rfl | simp); (case hs => repeat (first | exact xAx.head | apply xAx.tail)); (case hn => first | exact oD rfl | (show _ < 4; with_reducible assumption) | (simp; try omega)); (case hl => first | with_reducible assumption | (simp only [nl, kA, kB]; first | done | rfl) | rfl)) | (refine' xBm rfl (fun w => ?hq) ?hk ?ha ?_; (case hq => go_simp; try rfl))); (case hk => intro p hp; first | exact absurd hp List.not_mem_nil | (obtain rfl := List.mem_singleton.1 hp; repeat (first | exact List.Mem.head _ | with_reducible assumption | apply mC))); (case ha => simp only [kP, kQ, kA, kB]; try rfl))
  refine xBw (fun w hR => hQ _ _ ?_)
  clear hQ Q
  go_wp2_with (first | (refine' xAb hR rfl rfl rfl ?_; clear hR; intro blk w hR) | (refine' xAa hR rfl rfl inferInstance ?_; clear hR; intro blk w hR) | (refine' aFq hR rfl rfl rfl inferInstance ?_) | (refine' aGq hR rfl rfl rfl inferInstance ?_) | (refine' aHq hR rfl rfl rfl inferInstance ?_) | (refine' aDq hR rfl rfl rfl inferInstance rfl ?_; clear hR; intro w hR) | (refine' aEq hR rfl rfl rfl inferInstance rfl rfl ?_; clear hR; intro w hR) | fail)
  rw [rounds_succ]
  go_wp2_with (first | (refine' xAb hR rfl rfl rfl ?_; clear hR; intro blk w hR) | (refine' xAa hR rfl rfl inferInstance ?_; clear hR; intro blk w hR) | (refine' aFq hR rfl rfl rfl inferInstance ?_) | (refine' aGq hR rfl rfl rfl inferInstance ?_) | (refine' aHq hR rfl rfl rfl inferInstance ?_) | (refine' aDq hR rfl rfl rfl inferInstance rfl ?_; clear hR; intro w hR) | (refine' aEq hR rfl rfl rfl inferInstance rfl rfl ?_; clear hR; intro w hR) | fail)
  refine xAg hR [1, 1, 1, 1, 1, 1, 1, 0, 1, 1, 1, 0, 1, 2, 2, 2] [] xCt (by kernel_rfl) rfl rfl (fun K hK => ?_)
  clear hR
  repeat ((first | (refine xBj ?_) | (refine' xAs (by decide) rfl (.inl rfl) rfl ?ha ?_) | (refine' xAs (by decide) rfl (.inr rfl) rfl ?ha ?_) | (refine' xAr rfl rfl rfl inferInstance ?hm ?hn ?ha ?_; (case hm => first | with_reducible assumption | repeat (first | exact .head _ | with_reducible assumption | apply mC)); (case hn => first | rfl | simp)) | (refine' xAm rfl rfl rfl inferInstance ?hm ?hv ?hn ?ha ?_; (case hm => first | with_reducible assumption | repeat (first | exact .head _ | with_reducible assumption | apply mC)); (case hv => first | with_reducible assumption | (simp only [kC, kD, kE, kF]; try rfl)); (case hn => first | rfl | simp)) | (refine' xAi rfl rfl rfl inferInstance ?hm ?hv ?ha ?_; (case hm => first | with_reducible assumption | repeat (first | exact .head _ | with_reducible assumption | apply mC)); (case hv => first | rfl | with_reducible assumption)) | (refine' xAn rfl rfl rfl inferInstance ?hm ?hv ?hn ?ha ?_; (case hm => first | with_reducible assumption | repeat (first | exact .head _ | with_reducible assumption | apply mC)); (case hv => first | with_reducible assumption | (simp only [kC, kD, kE, kF]; try rfl)); (case hn => first | rfl | simp)) | (refine' xAj rfl rfl rfl inferInstance ?hm ?hv ?ha ?_; (case hm => first | with_reducible assumption | repeat (first | exact .head _ | with_reducible assumption | apply mC)); (case hv => first | rfl | with_reducible assumption)) | ((first | refine' xAd (by decide) rfl rfl rfl rfl (fun w => ?hq) ?ha ?_ | refine' xBf (by decide) rfl rfl rfl rfl (fun w => ?hq) ?ha ?_ | refine' xAp (by decide) rfl rfl rfl (fun w => ?hq) ?ha ?_ | refine' xAe (by decide) rfl rfl rfl (fun w => ?hq) ?ha ?_ | refine' xAo (by decide) rfl rfl rfl (fun w => ?hq) ?ha ?_ | refine' xBd (by decide) rfl rfl rfl rfl (fun w => ?hq) ?ha ?_ | refine' xBc (by decide) rfl rfl rfl rfl rfl rfl (fun w => ?hq) ?ha ?_ | refine' xBb (by decide) rfl rfl (fun w => ?hq) ?ha ?_ | refine' xAq (by decide) rfl rfl rfl (fun w => ?hq) ?ha ?_ | refine' xBe (by decide) rfl rfl rfl (fun w => ?hq) ?ha ?_); (case hq => go_simp; try rfl)) | (refine' xAh (by decide) rfl rfl rfl ?ha ?_) | (refine' xBl (by decide) rfl rfl rfl rfl ?ha ?_) | (refine' xBk (by decide) rfl ?ha ?_) | fail); try (case ha => simp only [kP, kQ, kA, kB]; try rfl))
  refine xBs (hK _ _ ?_)
  clear hK K
  refine xBx (fun Q hQ => ?_)
  try simp only [List.nil_append, List.cons_append]
  repeat ((first | refine' xBa rfl (.inl rfl) rfl ?hk ?ha ?_ | refine' xBa rfl (.inr rfl) rfl ?hk ?ha ?_ | (refine' xAv rfl rfl rfl inferInstance rfl ?hs rfl rfl ?hn ?hk ?ha ?_; (case hs => repeat (first | exact xAx.head | apply xAx.tail)); (case hn => first | rfl | simp)) | (refine' xAl rfl rfl rfl inferInstance rfl rfl ?hs ?hn ?hl ?hk ?ha ?_; (case hs => repeat (first | exact xAx.head | apply xAx.tail)); (case hn => first | exact oD rfl | (show _ < 4; with_reducible assumption) | (simp; try omega)); (case hl => first | with_reducible assumption | (simp only [nl, kA, kB]; first | done | rfl) | rfl)) | (refine' xAw rfl rfl rfl inferInstance rfl rfl ?hvn ?hs ?hn ?hl ?hk ?ha ?_; (case hvn => first | rfl | simp); (case hs => repeat (first | exact xAx.head | apply xAx.tail)); (case hn => first | exact oD rfl | (show _ < 4; with_reducible assumption) | (simp; try omega)); (case hl => first | with_reducible assumption | (simp only [nl, kA, kB]; first | done | rfl) | rfl)) | (refine' xBm rfl (fun w => ?hq) ?hk ?ha ?_; (case hq => go_simp; try rfl))); (case hk => intro p hp; first | exact absurd hp List.not_mem_nil | (obtain rfl := List.mem_singleton.1 hp; repeat (first | exact List.Mem.head _ | with_reducible assumption | apply mC))); (case ha => simp only [kP, kQ, kA, kB]; try rfl))
  refine xBw (fun w hR => hQ _ _ ?_)
  clear hQ Q
  go_wp2_with (first | (refine' xAb hR rfl rfl rfl ?_; clear hR; intro blk w hR) | (refine' xAa hR rfl rfl inferInstance ?_; clear hR; intro blk w hR) | (refine' aFq hR rfl rfl rfl inferInstance ?_) | (refine' aGq hR rfl rfl rfl inferInstance ?_) | (refine' aHq hR rfl rfl rfl inferInstance ?_) | (refine' aDq hR rfl rfl rfl inferInstance rfl ?_; clear hR; intro w hR) | (refine' aEq hR rfl rfl rfl inferInstance rfl rfl ?_; clear hR; intro w hR) | fail)
  rw [rounds_succ]
  go_wp2_with (first | (refine' xAb hR rfl rfl rfl ?_; clear hR; intro blk w hR) | (refine' xAa hR rfl rfl inferInstance ?_; clear hR; intro blk w hR) | (refine' aFq hR rfl rfl rfl inferInstance ?_) | (refine' aGq hR rfl rfl rfl inferInstance ?_) | (refine' aHq hR rfl rfl rfl inferInstance ?_) | (refine' aDq hR rfl rfl rfl inferInstance rfl ?_; clear hR; intro w hR) | (refine' aEq hR rfl rfl rfl inferInstance rfl rfl ?_; clear hR; intro w hR) | fail)
  go_end0
  exact ⟨rfl, hR⟩
noncomputable def plN (n : Nat) : List Nat := long32 fun k => w64 n (3 - k)
set_option maxRecDepth 100000 in
set_option maxHeartbeats 4000000 in
theorem put_long (n : Nat) (hR : Rep B0 w0 L w) : Calls Tryz.prog 29 #[.slice none 0 0, num n] w fun e w' => Fresh B0 w0 L e w' (plN n) := by
  have cp := fun (b : Nat) (hm : ∀ w, Rep B0 w0 ((b, .cells [Value.int .u64 (wd n 3), .int .u64 (wd n 2), .int .u64 (wd n 1), .int .u64 (wd n 0)].toArray 24) :: L) w → Rep B0 w0 ((b, .cells [Value.int .u64 (wd n 3), .int .u64 (wd n 2), .int .u64 (wd n 1), .int .u64 (wd n 0)].toArray 24) :: L) w) (w : World) (hR : Rep B0 w0 ((b, .cells [Value.int .u64 (wd n 3), .int .u64 (wd n 2), .int .u64 (wd n 1), .int .u64 (wd n 0)].toArray 24) :: L) w) => put_four (fun k => w64 n (3 - k)) (fun k => w64_lt _ _) b (fun w hw k hk => by
    have hc := fun (i : Nat) (v : Value) (hv : [Value.int .u64 (wd n 3), .int .u64 (wd n 2), .int .u64 (wd n 1), .int .u64 (wd n 0)][i]? = some v) => hw.cell (off := i) (.head _) hv
    have : k = 0 ∨ k = 1 ∨ k = 2 ∨ k = 3 := by omega
    rcases this with rfl | rfl | rfl | rfl
    · rw [hc 0 _ rfl, wd_eq]
    · rw [hc 1 _ rfl, wd_eq]
    · rw [hc 2 _ rfl, wd_eq]
    · rw [hc 3 _ rfl, wd_eq]) hR
  have cr := fun (b : Nat) (w : World) (hR : Rep B0 w0 ((b, .cells (nl n).toArray 24) :: L) w) => reverse_four (wd n 0) (wd n 1) (wd n 2) (wd n 3) hR
  go_enter Tryz.func29, Tryz.ntmps29
  go_wp2_with (first | (refine' xAb hR rfl rfl rfl ?_; clear hR; intro blk w hR) | (refine' xAa hR rfl rfl inferInstance ?_; clear hR; intro blk w hR) | (refine' aFq hR rfl rfl rfl inferInstance ?_) | (refine' aGq hR rfl rfl rfl inferInstance ?_) | (refine' aHq hR rfl rfl rfl inferInstance ?_) | (refine' aDq hR rfl rfl rfl inferInstance rfl ?_; clear hR; intro w hR) | (refine' aEq hR rfl rfl rfl inferInstance rfl rfl ?_; clear hR; intro w hR) | (go_at_call 58; refine (cr _ _ hR).mono ?_; clear hR; rintro e w ⟨rfl, hR⟩) | (go_at_call 59; refine (cp _ (fun _ h => h) _ hR).mono ?_; clear hR; rintro e w ⟨g, cap, rfl, cur, ho, hR⟩; replace ho := Held.mk ho))
  go_ret
  exact ⟨g, cap, rfl, cur, ho.out, hR.weaken ((List.sublist_cons_self _ _).cons_cons _)⟩
end
end Go.Proofs.YtgfoeongjhkdmaaGreat
