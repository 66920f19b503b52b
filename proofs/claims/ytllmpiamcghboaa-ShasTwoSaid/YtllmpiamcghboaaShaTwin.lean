/- The contracts of balefirelaw01.TwinBytes and LeftBytes; the walk of balefirelaw05.ShasOf. -/
import Derived.Test.YtllmpiamcghboaaShaRefOf
set_option linter.unusedSimpArgs false
set_option linter.unusedVariables false
namespace Go.Proofs.Ytllmpiamcghboaa
open Go.RowKit
attribute [local irreducible] Calls

/-- The bytes of a slice, and the spare one behind them. -/
noncomputable def twF (m : List Nat) : Nat → Nat := opq fun j => if j < m.length then m.getD j 0 else 77
theorem twF_lt (m : List Nat) {j : Nat} (h : j < m.length) : twF m j = m.getD j 0 := by unfold twF; rw [opq_eq]; simp [h]
theorem twF_end (m : List Nat) {j : Nat} (h : j = m.length) : twF m j = 77 := by unfold twF; rw [opq_eq]; simp [h]
theorem make_any (n : Nat) (hn : n ≤ 2000000) : ∃ l : List Value, l.length = n ∧ ∀ w : World, (Instr.makeSlice 24 (.int .i64 0) (.int .i64 (n : Int))).run Try.prog w = .ok (.slice (some ⟨w.heap.size, 0, none⟩) 0 n) (w.alloc (.cells l.toArray 5)) := by
  obtain ⟨i0, hi, hz0, hz1, hz2⟩ := info_parts info_u8
  refine ⟨(madeCells (Value.int .u8 0).cells n).toList, by simp [size_madeCells], fun w => ?_⟩
  rw [run_makeSlice (P := Try.prog) w 24 5 i0 (.int .u8 0) Try.underlying24 hi hz0 .i64 .i64 0 (n : Int) (by decide) (by omega) (by rw [hz1]; simp; omega) (by rw [hz2]; omega) (by omega)]
  rw [hz1]
  simp
section
variable {B0 : Nat} {w0 w : World} {L : List (Nat × Obj)}
theorem cell_load {ty : TypeId} [hT : CellT Try.prog ty] {ad : Addr} {v : Value} {w : World} (h : w.cell? ad = some v) : (loadVar ty ad).run Try.prog w = .ok v w := by
  obtain ⟨d, hu, hd, hi⟩ := hT.is
  have hagg : (isAgg ty).run Try.prog w = .ok false w := by
    unfold isAgg
    rw [Sem.run_bind, run_underlying hu w]
    cases d <;> simp_all
  have hl : (load ad).run Try.prog w = .ok v w := by
    simp only [load, Sem.run, h]
  unfold loadVar
  rw [Sem.run_bind, hagg]
  simp only [Result.andThen_ok, Bool.false_eq_true, if_false]
  exact hl
/-- A load from the caller's cells. -/
theorem wpList_loadFrom {ops : Array Oper} {rest : List Oper} {o : Oper} {a : Act} {Q : Exit → Act → World → Prop} (hg : o.guard = none) {ty : TypeId} {x : Operand} (ho : o.op = .load ty x) {ad : Addr} (hx : a.eval x = .pointer (some ad)) {v : Value}
    (hrun : (loadVar ty ad).run Try.prog w = .ok v w) (h : wpList Try.prog ops Q rest (a.put o.dst v) w) : wpList Try.prog ops Q (o :: rest) a w :=
  wpList_plain hg fun _ hK => by
    unfold Oper.wp execOp
    simp only [ho, hx, Instr.loadAt, Instr.sureAddr, Sem.run_bind, Sem.run_pure, Result.andThen_ok, hrun]
    exact hK _ _ h
theorem hd_loadFrom {ops : Array Oper} {ts : List Nat} {r acc : List Oper} {o : Oper} {a : Act} {K : List Oper → Act → Prop} {I : (World → Prop) → Prop} (hw : Region.wanted o (yielded ops a.tmps) = true) {ty : TypeId} {x : Operand} (hop : o.op = .load ty x) {ad : Addr} (hx : a.eval x = .pointer (some ad)) {v : Value}
    (hrun : ∀ w, Rep B0 w0 L w → (loadVar ty ad).run Try.prog w = .ok v w) {a' : Act} (ha : a.put o.dst v = a') (h : headM Try.prog ops I (Rep B0 w0 L) K ts r acc a') : headM Try.prog ops I (Rep B0 w0 L) K (0 :: ts) (o :: r) acc a :=
  hd_step hw (fun w hR => by
    unfold execOp
    simp only [hop, hx, Instr.loadAt, Instr.sureAddr, Sem.run_bind, Sem.run_pure, Result.andThen_ok, hrun w hR]
    exact ⟨rfl, hR⟩) ha h
theorem buf_slice {g cap : Nat} {cur : List Value} (xs : List Nat) (h3 : ∀ j, xs.getD j 0 < 256) (hb : BufOk (xs.length + 1) (twF xs) ⟨0, g, cap, cur⟩) : SliceOf B0 w0 ((g, .cells cur.toArray 5) :: L) (.slice (some ⟨g, 0, none⟩) xs.length cap) xs := by
  obtain ⟨ble, bbig, blen, bis⟩ := hb
  simp only at ble bbig blen bis
  refine ⟨_, cap, rfl, by omega, bbig, h3, fun _ => ⟨g, 0, rfl, fun w hw j hj => ?_⟩⟩
  rw [Nat.zero_add]
  refine hw.cell (.head _) ?_
  have := u8s_at (w := twF xs) (show j < xs.length + 1 by omega)
  rw [← bis, List.getElem?_take, if_pos (by omega), twF_lt xs hj] at this
  exact this
set_option maxRecDepth 100000 in
set_option maxHeartbeats 4000000 in
theorem twin_bytes (v : Value) (xs : List Nat) (hbig : xs.length ≤ 1048576) (hv : SliceOf B0 w0 L v xs) (hR : Rep B0 w0 L w) :
    Calls Try.prog 13 #[v] w fun e w' => ∃ g cap, e = .returned (.slice (some ⟨g, 0, none⟩) xs.length cap) ∧ ∃ cur, BufOk (xs.length + 1) (twF xs) ⟨0, g, cap, cur⟩ ∧ Rep B0 w0 ((g, .cells cur.toArray 5) :: L) w' := by
  obtain ⟨i0, hi, hz0, hz1, hz2⟩ := info_parts info_u8
  obtain ⟨N, hN⟩ : ∃ N, xs.length = N := ⟨_, rfl⟩
  obtain ⟨N1, hN1⟩ : ∃ x, N + 1 = x := ⟨_, rfl⟩
  obtain ⟨a, cp, hva, h1, h2, h3, h4⟩ := hv
  rw [hN] at hva h1 hbig ⊢
  rw [hN1]
  subst hva
  have f1 : IntKind.i64.wrap ((N : Int) + 1) = (N1 : Int) := by rw [IntKind.wrap_i64]; omega
  obtain ⟨l0, hl0, hmk⟩ := make_any N1 (by omega)
  replace hN := Held.mk hN
  replace hN1 := Held.mk hN1
  go_enter Try.func13, Try.ntmps13
  go_wp2_with (first | (refine' wpList_boxRep hR rfl rfl rfl ?_; clear hR; intro blk w hR) | (refine' wpList_allocRep hR rfl rfl ?hT ?_; (case hT => exact inferInstance); clear hR; intro blk w hR) | (refine' wpList_loadAll hR rfl rfl rfl ?hT ?hm ?hn ?_; (case hT => exact inferInstance); (case hm => first | with_reducible assumption | repeat (first | exact List.Mem.head _ | with_reducible assumption | apply List.mem_cons_of_mem)); (case hn => first | rfl | (simp; done))) | (refine' wpList_loadRow hR rfl rfl rfl ?hT ?hm ?hv ?hn ?_; (case hT => exact inferInstance); (case hm => first | with_reducible assumption | repeat (first | exact List.Mem.head _ | with_reducible assumption | apply List.mem_cons_of_mem)); (case hv => first | with_reducible assumption | (simp only [List.drop_succ_cons, List.drop_zero, List.take_succ_cons, List.take_zero]; first | done | rfl)); (case hn => first | rfl | (simp; done))) | (refine' wpList_loadCell hR rfl rfl rfl ?hT ?hm ?hv ?_; (case hT => exact inferInstance); (case hm => first | with_reducible assumption | repeat (first | exact List.Mem.head _ | with_reducible assumption | apply List.mem_cons_of_mem)); (case hv => first | rfl | with_reducible assumption)) | (refine' wpList_storeAll hR rfl rfl rfl ?hT rfl ?hs ?zone ?zvn ?hn ?_; (case hT => exact inferInstance); (case hs => repeat (first | exact SetAt.head | apply SetAt.tail)); (case zone => first | rfl | with_reducible assumption); (case zvn => first | rfl | (simp; done)); (case hn => first | rfl | (simp; done)); clear hR; intro w hR) | (refine' wpList_storeCell hR rfl rfl rfl ?hT rfl rfl ?hs ?hn ?hl ?_; (case hT => exact inferInstance); (case hs => repeat (first | exact SetAt.head | apply SetAt.tail)); (case hn => first | exact of_decide_eq_true rfl | (show _ < 4; with_reducible assumption) | (simp; done) | (simp; omega)); (case hl => first | with_reducible assumption | (simp only [List.set_cons_zero, List.set_cons_succ]; done) | (simp only [List.set_cons_zero, List.set_cons_succ]; rfl) | (simp only [nl, List.set_cons_zero, List.set_cons_succ]; done) | (simp only [nl, List.set_cons_zero, List.set_cons_succ]; rfl) | rfl); clear hR; intro w hR) | (refine' wpList_makeRep hR rfl rfl rfl rfl hmk ?_; clear hR; intro blk w hR))
  refine' loop_while (false :: false :: false :: false :: false :: false :: false :: false :: false :: true :: true :: true :: true :: true :: true :: true :: true :: true :: true :: true :: true :: true :: false :: false :: false :: false :: false :: false :: []) (fun (x : Buf) l => (l.set 3 (.slice (some ⟨x.g, 0, none⟩) x.i x.cap)).set 4 (.int .i64 (x.i : Int))) (fun x => (x.g, .cells x.cur.toArray 5) :: L) (fun x => N - x.i) (fun x => x.i ≤ N ∧ BufOk x.i (twF xs) x) ⟨0, blk, N1, l0⟩ ?h0 ?hO ?hR ?hs
  case h0 => exact agree_of rfl rfl rfl
  case hO => exact ⟨Nat.zero_le _, Nat.zero_le _, by unfold maxLen; show N1 ≤ _; have := hN1.out; omega, hl0, by rw [u8s_def]; rfl⟩
  case hR => exact hR
  case hs =>
    clear hR hl0 hmk
    intro x tm w hO ht hR K hK
    obtain ⟨k, g, cap, cur⟩ := x
    obtain ⟨hk, ⟨ble, bbig, blen, bis⟩⟩ := hO
    simp only at hk ble bbig blen bis ht hR
    have g0 : 0 ≤ (k : Int) := by omega
    by_cases hkn : k = N
    · subst hkn
      clear hK
      have t1 : ¬ (k : Int) < (k : Int) := by omega
      have hn63 : k + 1 ≤ maxLen := by unfold maxLen; omega
      have hnb : (k + 1) * 1 ≤ 140737488355328 := by omega
      have htw := twF_end xs hN.out.symm
      replace bis := Held.mk bis
      replace blen := Held.mk blen
      replace htw := Held.mk htw
      repeat (first | (obtain ⟨x, tm', e, ht'⟩ := agree_true ht; clear ht; subst e; have ht := ht'; clear ht') | (obtain ⟨tm', e, ht'⟩ := agree_false ht; clear ht; subst e; have ht := ht'; clear ht'))
      obtain rfl := agree_nil ht
      clear ht
      go_wp2_with (first | (refine' wpList_boxRep hR rfl rfl rfl ?_; clear hR; intro blk w hR) | (refine' wpList_allocRep hR rfl rfl ?hT ?_; (case hT => exact inferInstance); clear hR; intro blk w hR) | (refine' wpList_loadAll hR rfl rfl rfl ?hT ?hm ?hn ?_; (case hT => exact inferInstance); (case hm => first | with_reducible assumption | repeat (first | exact List.Mem.head _ | with_reducible assumption | apply List.mem_cons_of_mem)); (case hn => first | rfl | (simp; done))) | (refine' wpList_loadRow hR rfl rfl rfl ?hT ?hm ?hv ?hn ?_; (case hT => exact inferInstance); (case hm => first | with_reducible assumption | repeat (first | exact List.Mem.head _ | with_reducible assumption | apply List.mem_cons_of_mem)); (case hv => first | with_reducible assumption | (simp only [List.drop_succ_cons, List.drop_zero, List.take_succ_cons, List.take_zero]; first | done | rfl)); (case hn => first | rfl | (simp; done))) | (refine' wpList_loadCell hR rfl rfl rfl ?hT ?hm ?hv ?_; (case hT => exact inferInstance); (case hm => first | with_reducible assumption | repeat (first | exact List.Mem.head _ | with_reducible assumption | apply List.mem_cons_of_mem)); (case hv => first | rfl | with_reducible assumption)) | (refine' wpList_storeAll hR rfl rfl rfl ?hT rfl ?hs ?zone ?zvn ?hn ?_; (case hT => exact inferInstance); (case hs => repeat (first | exact SetAt.head | apply SetAt.tail)); (case zone => first | rfl | with_reducible assumption); (case zvn => first | rfl | (simp; done)); (case hn => first | rfl | (simp; done)); clear hR; intro w hR) | (refine' wpList_storeCell hR rfl rfl rfl ?hT rfl rfl ?hs ?hn ?hl ?_; (case hT => exact inferInstance); (case hs => repeat (first | exact SetAt.head | apply SetAt.tail)); (case hn => first | exact of_decide_eq_true rfl | (show _ < 4; with_reducible assumption) | (simp; done) | (simp; omega)); (case hl => first | with_reducible assumption | (simp only [List.set_cons_zero, List.set_cons_succ]; done) | (simp only [List.set_cons_zero, List.set_cons_succ]; rfl) | (simp only [nl, List.set_cons_zero, List.set_cons_succ]; done) | (simp only [nl, List.set_cons_zero, List.set_cons_succ]; rfl) | rfl); clear hR; intro w hR) | (refine' wpList_oneNew hR rfl rfl rfl (byte_new _) ?_; clear hR; intro bt w hR) | (refine' wpList_appendOne hR rfl rfl Try.underlying24 hi hz0 hz1 hz2 rfl rfl rfl ble bbig blen.out rfl hn63 hnb ?_; clear hR; intro g' cap' cur' w hR c1 c2 c3 c4; have c5 : (k : Int) ≤ (cap' : Int) := Int.ofNat_le.2 (Nat.le_of_succ_le c1); have c6 : ¬ cap' = 0 := fun h => Nat.not_succ_le_zero k (h ▸ c1)))
      go_ret
      refine ⟨g', cap', rfl, cur', ⟨?_, c2, c3, ?_⟩, hR⟩
      · show N1 ≤ cap'
        have := hN1.out
        omega
      · show cur'.take N1 = u8s N1 (twF xs)
        rw [← hN1.out, c4, bis.out, u8s_succ, htw.out]
        rfl
    · have g1 : (k : Int) < (N : Int) := by omega
      have hx : xs ≠ [] := fun h => by
        have := hN.out
        rw [h] at this
        have : N = 0 := this.symm
        omega
      obtain ⟨bb, off, rfl, h6⟩ := h4 hx
      have hld := cell_load (ty := 5) (h6 w hR.drop1 k (by rw [hN.out]; omega))
      have htw : twF xs k = xs.getD k 0 := twF_lt xs (by rw [hN.out]; omega)
      have hx0 := h3 k
      generalize xs.getD k 0 = x at *
      have e1 : IntKind.i64.wrap ((k : Int) + 1) = (k : Int) + 1 := by rw [IntKind.wrap_i64]; omega
      have hn63 : k + 1 ≤ maxLen := by unfold maxLen; omega
      have hnb : (k + 1) * 1 ≤ 140737488355328 := by omega
      have ek : ((k + 1 : Nat) : Int) = (k : Int) + 1 := by omega
      replace bis := Held.mk bis
      replace blen := Held.mk blen
      replace htw := Held.mk htw
      replace ek := Held.mk ek
      repeat (first | (obtain ⟨x, tm', e, ht'⟩ := agree_true ht; clear ht; subst e; have ht := ht'; clear ht') | (obtain ⟨tm', e, ht'⟩ := agree_false ht; clear ht; subst e; have ht := ht'; clear ht'))
      obtain rfl := agree_nil ht
      clear ht
      go_wp2_with (first | (refine' wpList_boxRep hR rfl rfl rfl ?_; clear hR; intro blk w hR) | (refine' wpList_allocRep hR rfl rfl ?hT ?_; (case hT => exact inferInstance); clear hR; intro blk w hR) | (refine' wpList_loadAll hR rfl rfl rfl ?hT ?hm ?hn ?_; (case hT => exact inferInstance); (case hm => first | with_reducible assumption | repeat (first | exact List.Mem.head _ | with_reducible assumption | apply List.mem_cons_of_mem)); (case hn => first | rfl | (simp; done))) | (refine' wpList_loadRow hR rfl rfl rfl ?hT ?hm ?hv ?hn ?_; (case hT => exact inferInstance); (case hm => first | with_reducible assumption | repeat (first | exact List.Mem.head _ | with_reducible assumption | apply List.mem_cons_of_mem)); (case hv => first | with_reducible assumption | (simp only [List.drop_succ_cons, List.drop_zero, List.take_succ_cons, List.take_zero]; first | done | rfl)); (case hn => first | rfl | (simp; done))) | (refine' wpList_loadCell hR rfl rfl rfl ?hT ?hm ?hv ?_; (case hT => exact inferInstance); (case hm => first | with_reducible assumption | repeat (first | exact List.Mem.head _ | with_reducible assumption | apply List.mem_cons_of_mem)); (case hv => first | rfl | with_reducible assumption)) | (refine' wpList_storeAll hR rfl rfl rfl ?hT rfl ?hs ?zone ?zvn ?hn ?_; (case hT => exact inferInstance); (case hs => repeat (first | exact SetAt.head | apply SetAt.tail)); (case zone => first | rfl | with_reducible assumption); (case zvn => first | rfl | (simp; done)); (case hn => first | rfl | (simp; done)); clear hR; intro w hR) | (refine' wpList_storeCell hR rfl rfl rfl ?hT rfl rfl ?hs ?hn ?hl ?_; (case hT => exact inferInstance); (case hs => repeat (first | exact SetAt.head | apply SetAt.tail)); (case hn => first | exact of_decide_eq_true rfl | (show _ < 4; with_reducible assumption) | (simp; done) | (simp; omega)); (case hl => first | with_reducible assumption | (simp only [List.set_cons_zero, List.set_cons_succ]; done) | (simp only [List.set_cons_zero, List.set_cons_succ]; rfl) | (simp only [nl, List.set_cons_zero, List.set_cons_succ]; done) | (simp only [nl, List.set_cons_zero, List.set_cons_succ]; rfl) | rfl); clear hR; intro w hR) | (refine' wpList_loadFrom rfl rfl rfl hld ?_) | (refine' wpList_oneNew hR rfl rfl rfl (byte_new _) ?_; clear hR; intro bt w hR) | (refine' wpList_appendOne hR rfl rfl Try.underlying24 hi hz0 hz1 hz2 rfl rfl rfl ble bbig blen.out rfl hn63 hnb ?_; clear hR; intro g' cap' cur' w hR c1 c2 c3 c4))
      refine hK.out ⟨k + 1, g', cap', cur'⟩ _ _ ⟨by show k + 1 ≤ N; omega, c1, c2, c3, ?_⟩ (by show N - (k + 1) < N - k; omega) (by simp only [ek.out]; exact agree_of rfl rfl rfl) hR
      show cur'.take (k + 1) = u8s (k + 1) (twF xs)
      rw [c4, bis.out, u8s_succ, htw.out]
set_option maxRecDepth 100000 in
set_option maxHeartbeats 4000000 in
theorem left_bytes (v : Value) (xs : List Nat) (g cap : Nat) (cur : List Value) (hbig : xs.length ≤ 1048576) (hb : BufOk (xs.length + 1) (twF xs) ⟨0, g, cap, cur⟩) (hm : (g, Obj.cells cur.toArray 5) ∈ L) (hv : SliceOf B0 w0 L v xs) (hR : Rep B0 w0 L w) :
    Calls Try.prog 16 #[.slice (some ⟨g, 0, none⟩) xs.length cap, v] w fun e w' => e = .returned (.bool true) ∧ Rep B0 w0 L w' := by
  obtain ⟨N, hN⟩ : ∃ N, xs.length = N := ⟨_, rfl⟩
  obtain ⟨N1, hN1⟩ : ∃ x, N + 1 = x := ⟨_, rfl⟩
  obtain ⟨a, cp, hva, h1, h2, h3, h4⟩ := hv
  obtain ⟨ble, bbig, blen, bis⟩ := hb
  simp only at ble bbig blen bis
  have hcur : ∀ j, j < xs.length + 1 → cur[j]? = some (.int .u8 ((twF xs j : Nat) : Int)) := fun j hj => by
    have := u8s_at (w := twF xs) hj
    rw [← bis, List.getElem?_take, if_pos hj] at this
    exact this
  have hend := hcur xs.length (by omega)
  rw [twF_end xs rfl, hN] at hend
  rw [hN] at hva h1 hbig ble ⊢
  subst hva
  have f1 : IntKind.i64.wrap ((N : Int) + 1) = (N1 : Int) := by rw [IntKind.wrap_i64]; omega
  have f2 : ¬ (cap : Int) ≤ (N : Int) := by omega
  have f3 : decide ((cap : Int) ≤ (N : Int)) = false := decide_eq_false f2
  have f4 : ¬ cap = 0 := by omega
  have f5 : (N1 : Int) ≤ (cap : Int) := by omega
  have f6 : 0 ≤ (N1 : Int) := by omega
  have f7 : (N : Int) < (N1 : Int) := by omega
  have f8 : 0 ≤ (N : Int) := by omega
  have hend' : cur[N]? = some (.int .u8 77) := hend
  clear bis blen hend
  replace hN := Held.mk hN
  replace hN1 := Held.mk hN1
  go_enter Try.func16, Try.ntmps16
  go_wp2_with (first | (refine' wpList_boxRep hR rfl rfl rfl ?_; clear hR; intro blk w hR) | (refine' wpList_allocRep hR rfl rfl ?hT ?_; (case hT => exact inferInstance); clear hR; intro blk w hR) | (refine' wpList_loadAll hR rfl rfl rfl ?hT ?hm ?hn ?_; (case hT => exact inferInstance); (case hm => first | with_reducible assumption | repeat (first | exact List.Mem.head _ | with_reducible assumption | apply List.mem_cons_of_mem)); (case hn => first | rfl | (simp; done))) | (refine' wpList_loadRow hR rfl rfl rfl ?hT ?hm ?hv ?hn ?_; (case hT => exact inferInstance); (case hm => first | with_reducible assumption | repeat (first | exact List.Mem.head _ | with_reducible assumption | apply List.mem_cons_of_mem)); (case hv => first | with_reducible assumption | (simp only [List.drop_succ_cons, List.drop_zero, List.take_succ_cons, List.take_zero]; first | done | rfl)); (case hn => first | rfl | (simp; done))) | (refine' wpList_loadCell hR rfl rfl rfl ?hT ?hm ?hv ?_; (case hT => exact inferInstance); (case hm => first | with_reducible assumption | repeat (first | exact List.Mem.head _ | with_reducible assumption | apply List.mem_cons_of_mem)); (case hv => first | rfl | with_reducible assumption)) | (refine' wpList_storeAll hR rfl rfl rfl ?hT rfl ?hs ?zone ?zvn ?hn ?_; (case hT => exact inferInstance); (case hs => repeat (first | exact SetAt.head | apply SetAt.tail)); (case zone => first | rfl | with_reducible assumption); (case zvn => first | rfl | (simp; done)); (case hn => first | rfl | (simp; done)); clear hR; intro w hR) | (refine' wpList_storeCell hR rfl rfl rfl ?hT rfl rfl ?hs ?hn ?hl ?_; (case hT => exact inferInstance); (case hs => repeat (first | exact SetAt.head | apply SetAt.tail)); (case hn => first | exact of_decide_eq_true rfl | (show _ < 4; with_reducible assumption) | (simp; done) | (simp; omega)); (case hl => first | with_reducible assumption | (simp only [List.set_cons_zero, List.set_cons_succ]; done) | (simp only [List.set_cons_zero, List.set_cons_succ]; rfl) | (simp only [nl, List.set_cons_zero, List.set_cons_succ]; done) | (simp only [nl, List.set_cons_zero, List.set_cons_succ]; rfl) | rfl); clear hR; intro w hR) | (refine' wpList_loadAllG hR rfl rfl rfl ?hT ?hm ?hn ?_; (case hT => exact inferInstance); (case hm => first | with_reducible assumption | repeat (first | exact List.Mem.head _ | with_reducible assumption | apply List.mem_cons_of_mem)); (case hn => first | rfl | (simp; done))) | (refine' wpList_loadCellG hR rfl rfl rfl ?hT ?hm ?hv ?_; (case hT => exact inferInstance); (case hm => first | with_reducible assumption | repeat (first | exact List.Mem.head _ | with_reducible assumption | apply List.mem_cons_of_mem)); (case hv => first | rfl | with_reducible assumption)) | fail)
  refine' loop_rep (false :: false :: false :: false :: false :: false :: false :: false :: false :: false :: false :: false :: false :: false :: false :: false :: false :: false :: false :: true :: true :: true :: true :: true :: true :: true :: true :: true :: true :: true :: true :: true :: true :: true :: false :: false :: false :: false :: false :: false :: false :: false :: false :: false :: false :: []) (fun j l => l.set 5 (.int .i64 ((N : Int) - (j : Int)))) (fun j => L) N ?h0 ?hR ?hs ?he
  case h0 => simp only [Int.sub_self]; exact agree_of rfl rfl rfl
  case hR => exact hR
  case hs =>
    clear hR
    intro j tm w hj ht hR K hK
    repeat (first | (obtain ⟨x, tm', e, ht'⟩ := agree_true ht; clear ht; subst e; have ht := ht'; clear ht') | (obtain ⟨tm', e, ht'⟩ := agree_false ht; clear ht; subst e; have ht := ht'; clear ht'))
    obtain rfl := agree_nil ht
    clear ht
    obtain ⟨k, hk⟩ : ∃ k, N - (j + 1) = k := ⟨_, rfl⟩
    have e1 : (N : Int) - ((j + 1 : Nat) : Int) = (k : Int) := by omega
    have e2 : (N : Int) - (j : Int) = (k : Int) + 1 := by omega
    simp only [e2] at hK
    rw [e1]
    have kN : k < N := by omega
    clear e1 e2 hk hj f7 f8
    have hx : xs ≠ [] := fun h => by
      have := hN.out
      rw [h] at this
      have : N = 0 := this.symm
      omega
    obtain ⟨bb, off, rfl, h6⟩ := h4 hx
    have hld := fun w hw => cell_load (ty := 5) (h6 w hw k (by rw [hN.out]; omega))
    have hc := hcur k (by rw [hN.out]; omega)
    rw [twF_lt xs (by rw [hN.out]; omega)] at hc
    have hx0 := h3 k
    generalize xs.getD k 0 = x at *
    have g0 : 0 ≤ (k : Int) := by omega
    have g1 : (k : Int) < (N : Int) := by omega
    have e1 : IntKind.i64.wrap ((k : Int) + 1) = (k : Int) + 1 := by rw [IntKind.wrap_i64]; omega
    go_wp2_with (first | (refine' wpList_boxRep hR rfl rfl rfl ?_; clear hR; intro blk w hR) | (refine' wpList_allocRep hR rfl rfl ?hT ?_; (case hT => exact inferInstance); clear hR; intro blk w hR) | (refine' wpList_loadAll hR rfl rfl rfl ?hT ?hm ?hn ?_; (case hT => exact inferInstance); (case hm => first | with_reducible assumption | repeat (first | exact List.Mem.head _ | with_reducible assumption | apply List.mem_cons_of_mem)); (case hn => first | rfl | (simp; done))) | (refine' wpList_loadRow hR rfl rfl rfl ?hT ?hm ?hv ?hn ?_; (case hT => exact inferInstance); (case hm => first | with_reducible assumption | repeat (first | exact List.Mem.head _ | with_reducible assumption | apply List.mem_cons_of_mem)); (case hv => first | with_reducible assumption | (simp only [List.drop_succ_cons, List.drop_zero, List.take_succ_cons, List.take_zero]; first | done | rfl)); (case hn => first | rfl | (simp; done))) | (refine' wpList_loadCell hR rfl rfl rfl ?hT ?hm ?hv ?_; (case hT => exact inferInstance); (case hm => first | with_reducible assumption | repeat (first | exact List.Mem.head _ | with_reducible assumption | apply List.mem_cons_of_mem)); (case hv => first | rfl | with_reducible assumption)) | (refine' wpList_storeAll hR rfl rfl rfl ?hT rfl ?hs ?zone ?zvn ?hn ?_; (case hT => exact inferInstance); (case hs => repeat (first | exact SetAt.head | apply SetAt.tail)); (case zone => first | rfl | with_reducible assumption); (case zvn => first | rfl | (simp; done)); (case hn => first | rfl | (simp; done)); clear hR; intro w hR) | (refine' wpList_storeCell hR rfl rfl rfl ?hT rfl rfl ?hs ?hn ?hl ?_; (case hT => exact inferInstance); (case hs => repeat (first | exact SetAt.head | apply SetAt.tail)); (case hn => first | exact of_decide_eq_true rfl | (show _ < 4; with_reducible assumption) | (simp; done) | (simp; omega)); (case hl => first | with_reducible assumption | (simp only [List.set_cons_zero, List.set_cons_succ]; done) | (simp only [List.set_cons_zero, List.set_cons_succ]; rfl) | (simp only [nl, List.set_cons_zero, List.set_cons_succ]; done) | (simp only [nl, List.set_cons_zero, List.set_cons_succ]; rfl) | rfl); clear hR; intro w hR) | fail)
    refine wp_region_ord hR [0, 0, 0, 0, 0, 0, 0, 0, 0] [] mixed (by kernel_rfl) rfl rfl (fun K hK => ?_)
    clear hR
    repeat (first | (refine hd_tail ?_) | (refine' hd_move (by decide) rfl (.inl rfl) rfl ?ha ?_; (case ha => simp only [Act.put, List.setIfInBounds_toArray, List.set_cons_zero, List.set_cons_succ]; try rfl)) | (refine' hd_move (by decide) rfl (.inr rfl) rfl ?ha ?_; (case ha => simp only [Act.put, List.setIfInBounds_toArray, List.set_cons_zero, List.set_cons_succ]; try rfl)) | (refine' hd_loadAll rfl rfl rfl ?hT ?hm ?hn ?ha ?_; (case hT => exact inferInstance); (case hm => first | with_reducible assumption | repeat (first | exact List.Mem.head _ | with_reducible assumption | apply List.mem_cons_of_mem)); (case hn => first | rfl | (simp; done)); (case ha => simp only [Act.put, List.setIfInBounds_toArray, List.set_cons_zero, List.set_cons_succ]; try rfl)) | (refine' hd_loadRow rfl rfl rfl ?hT ?hm ?hv ?hn ?ha ?_; (case hT => exact inferInstance); (case hm => first | with_reducible assumption | repeat (first | exact List.Mem.head _ | with_reducible assumption | apply List.mem_cons_of_mem)); (case hv => first | with_reducible assumption | (simp only [List.drop_succ_cons, List.drop_zero, List.take_succ_cons, List.take_zero]; first | done | rfl)); (case hn => first | rfl | (simp; done)); (case ha => simp only [Act.put, List.setIfInBounds_toArray, List.set_cons_zero, List.set_cons_succ]; try rfl)) | (refine' hd_loadCell rfl rfl rfl ?hT ?hm ?hv ?ha ?_; (case hT => exact inferInstance); (case hm => first | with_reducible assumption | repeat (first | exact List.Mem.head _ | with_reducible assumption | apply List.mem_cons_of_mem)); (case hv => first | rfl | with_reducible assumption); (case ha => simp only [Act.put, List.setIfInBounds_toArray, List.set_cons_zero, List.set_cons_succ]; try rfl)) | (refine' hd_keepRow rfl rfl rfl ?hT ?hm ?hv ?hn ?ha ?_; (case hT => exact inferInstance); (case hm => first | with_reducible assumption | repeat (first | exact List.Mem.head _ | with_reducible assumption | apply List.mem_cons_of_mem)); (case hv => first | with_reducible assumption | (simp only [List.drop_succ_cons, List.drop_zero, List.take_succ_cons, List.take_zero]; first | done | rfl)); (case hn => first | rfl | (simp; done)); (case ha => simp only [Act.put, List.setIfInBounds_toArray, List.set_cons_zero, List.set_cons_succ]; try rfl)) | (refine' hd_keepCell rfl rfl rfl ?hT ?hm ?hv ?ha ?_; (case hT => exact inferInstance); (case hm => first | with_reducible assumption | repeat (first | exact List.Mem.head _ | with_reducible assumption | apply List.mem_cons_of_mem)); (case hv => first | rfl | with_reducible assumption); (case ha => simp only [Act.put, List.setIfInBounds_toArray, List.set_cons_zero, List.set_cons_succ]; try rfl)) | (refine' hd_indexAddr (by decide) rfl rfl rfl rfl (fun w => ?hq) ?ha ?_; (case hq => go_simp; first | done | rfl); (case ha => simp only [Act.put, List.setIfInBounds_toArray, List.set_cons_zero, List.set_cons_succ]; try rfl)) | (refine' hd_binOp (by decide) rfl rfl rfl rfl (fun w => ?hq) ?ha ?_; (case hq => go_simp; first | done | rfl); (case ha => simp only [Act.put, List.setIfInBounds_toArray, List.set_cons_zero, List.set_cons_succ]; try rfl)) | (refine' hd_extract (by decide) rfl rfl rfl (fun w => ?hq) ?ha ?_; (case hq => go_simp; first | done | rfl); (case ha => simp only [Act.put, List.setIfInBounds_toArray, List.set_cons_zero, List.set_cons_succ]; try rfl)) | (refine' hd_nilCheck (by decide) rfl rfl rfl ?ha ?_; (case ha => simp only [Act.put, List.setIfInBounds_toArray, List.set_cons_zero, List.set_cons_succ]; try rfl)) | (refine' hd_fieldAddr (by decide) rfl rfl rfl (fun w => ?hq) ?ha ?_; (case hq => go_simp; first | done | rfl); (case ha => simp only [Act.put, List.setIfInBounds_toArray, List.set_cons_zero, List.set_cons_succ]; try rfl)) | (refine' hd_convert (by decide) rfl rfl rfl (fun w => ?hq) ?ha ?_; (case hq => go_simp; first | done | rfl); (case ha => simp only [Act.put, List.setIfInBounds_toArray, List.set_cons_zero, List.set_cons_succ]; try rfl)) | (refine' hd_index (by decide) rfl rfl rfl rfl (fun w => ?hq) ?ha ?_; (case hq => go_simp; first | done | rfl); (case ha => simp only [Act.put, List.setIfInBounds_toArray, List.set_cons_zero, List.set_cons_succ]; try rfl)) | (refine' hd_pick (by decide) rfl rfl rfl rfl ?ha ?_; (case ha => simp only [Act.put, List.setIfInBounds_toArray, List.set_cons_zero, List.set_cons_succ]; try rfl)) | (refine' hd_slice (by decide) rfl rfl rfl rfl rfl rfl (fun w => ?hq) ?ha ?_; (case hq => go_simp; first | done | rfl); (case ha => simp only [Act.put, List.setIfInBounds_toArray, List.set_cons_zero, List.set_cons_succ]; try rfl)) | (refine' hd_build (by decide) rfl rfl (fun w => ?hq) ?ha ?_; (case hq => go_simp; first | done | rfl); (case ha => simp only [Act.put, List.setIfInBounds_toArray, List.set_cons_zero, List.set_cons_succ]; try rfl)) | (refine' hd_arrayAt (by decide) rfl rfl rfl (fun w => ?hq) ?ha ?_; (case hq => go_simp; first | done | rfl); (case ha => simp only [Act.put, List.setIfInBounds_toArray, List.set_cons_zero, List.set_cons_succ]; try rfl)) | (refine' hd_field (by decide) rfl rfl rfl (fun w => ?hq) ?ha ?_; (case hq => go_simp; first | done | rfl); (case ha => simp only [Act.put, List.setIfInBounds_toArray, List.set_cons_zero, List.set_cons_succ]; try rfl)) | (refine' hd_skip (by decide) rfl ?ha ?_; (case ha => simp only [Act.put, List.setIfInBounds_toArray, List.set_cons_zero, List.set_cons_succ]; try rfl)) | (refine' hd_loadFrom rfl rfl rfl hld ?ha ?_; (case ha => simp only [Act.put, List.setIfInBounds_toArray, List.set_cons_zero, List.set_cons_succ]; try rfl)))
    refine hd_nil (hK _ _ ?_)
    clear hK K
    refine tl_gen (fun Q hQ => ?_)
    try simp only [List.nil_append, List.cons_append]
    repeat (first | (refine' tl_move rfl (.inl rfl) rfl ?hk ?ha ?_; (case hk => intro p hp; first | exact absurd hp List.not_mem_nil | (obtain rfl := List.mem_singleton.1 hp; repeat (first | exact List.Mem.head _ | with_reducible assumption | apply List.mem_cons_of_mem))); (case ha => simp only [Act.put, List.setIfInBounds_toArray, List.set_cons_zero, List.set_cons_succ]; try rfl)) | (refine' tl_move rfl (.inr rfl) rfl ?hk ?ha ?_; (case hk => intro p hp; first | exact absurd hp List.not_mem_nil | (obtain rfl := List.mem_singleton.1 hp; repeat (first | exact List.Mem.head _ | with_reducible assumption | apply List.mem_cons_of_mem))); (case ha => simp only [Act.put, List.setIfInBounds_toArray, List.set_cons_zero, List.set_cons_succ]; try rfl)) | (refine' tl_storeAll rfl rfl rfl ?hT rfl ?hs rfl rfl ?hn ?hk ?ha ?_; (case hT => exact inferInstance); (case hs => repeat (first | exact SetAt.head | apply SetAt.tail)); (case hn => first | rfl | (simp; done)); (case hk => intro p hp; first | exact absurd hp List.not_mem_nil | (obtain rfl := List.mem_singleton.1 hp; repeat (first | exact List.Mem.head _ | with_reducible assumption | apply List.mem_cons_of_mem))); (case ha => simp only [Act.put, List.setIfInBounds_toArray, List.set_cons_zero, List.set_cons_succ]; try rfl)) | (refine' tl_storeCell rfl rfl rfl ?hT rfl rfl ?hs ?hn ?hl ?hk ?ha ?_; (case hT => exact inferInstance); (case hs => repeat (first | exact SetAt.head | apply SetAt.tail)); (case hn => first | exact of_decide_eq_true rfl | (show _ < 4; with_reducible assumption) | (simp; done) | (simp; omega)); (case hl => first | with_reducible assumption | (simp only [List.set_cons_zero, List.set_cons_succ]; done) | (simp only [List.set_cons_zero, List.set_cons_succ]; rfl) | (simp only [nl, List.set_cons_zero, List.set_cons_succ]; done) | (simp only [nl, List.set_cons_zero, List.set_cons_succ]; rfl) | rfl); (case hk => intro p hp; first | exact absurd hp List.not_mem_nil | (obtain rfl := List.mem_singleton.1 hp; repeat (first | exact List.Mem.head _ | with_reducible assumption | apply List.mem_cons_of_mem))); (case ha => simp only [Act.put, List.setIfInBounds_toArray, List.set_cons_zero, List.set_cons_succ]; try rfl)) | (refine' tl_storeRow rfl rfl rfl ?hT rfl rfl ?hvn ?hs ?hn ?hl ?hk ?ha ?_; (case hT => exact inferInstance); (case hvn => first | rfl | (simp; done)); (case hs => repeat (first | exact SetAt.head | apply SetAt.tail)); (case hn => first | exact of_decide_eq_true rfl | (show _ < 4; with_reducible assumption) | (simp; done) | (simp; omega)); (case hl => first | with_reducible assumption | (simp only [List.set_cons_zero, List.set_cons_succ]; done) | (simp only [List.set_cons_zero, List.set_cons_succ]; rfl) | (simp only [nl, List.set_cons_zero, List.set_cons_succ]; done) | (simp only [nl, List.set_cons_zero, List.set_cons_succ]; rfl) | rfl); (case hk => intro p hp; first | exact absurd hp List.not_mem_nil | (obtain rfl := List.mem_singleton.1 hp; repeat (first | exact List.Mem.head _ | with_reducible assumption | apply List.mem_cons_of_mem))); (case ha => simp only [Act.put, List.setIfInBounds_toArray, List.set_cons_zero, List.set_cons_succ]; try rfl)) | (refine' tl_pure rfl (fun w => ?hq) ?hk ?ha ?_; (case hq => go_simp; first | done | rfl); (case hk => intro p hp; first | exact absurd hp List.not_mem_nil | (obtain rfl := List.mem_singleton.1 hp; repeat (first | exact List.Mem.head _ | with_reducible assumption | apply List.mem_cons_of_mem))); (case ha => simp only [Act.put, List.setIfInBounds_toArray, List.set_cons_zero, List.set_cons_succ]; try rfl)))
    refine tl_nil (fun w hR => hQ _ _ ?_)
    clear hQ Q
    go_wp2_with (first | (refine' wpList_boxRep hR rfl rfl rfl ?_; clear hR; intro blk w hR) | (refine' wpList_allocRep hR rfl rfl ?hT ?_; (case hT => exact inferInstance); clear hR; intro blk w hR) | (refine' wpList_loadAll hR rfl rfl rfl ?hT ?hm ?hn ?_; (case hT => exact inferInstance); (case hm => first | with_reducible assumption | repeat (first | exact List.Mem.head _ | with_reducible assumption | apply List.mem_cons_of_mem)); (case hn => first | rfl | (simp; done))) | (refine' wpList_loadRow hR rfl rfl rfl ?hT ?hm ?hv ?hn ?_; (case hT => exact inferInstance); (case hm => first | with_reducible assumption | repeat (first | exact List.Mem.head _ | with_reducible assumption | apply List.mem_cons_of_mem)); (case hv => first | with_reducible assumption | (simp only [List.drop_succ_cons, List.drop_zero, List.take_succ_cons, List.take_zero]; first | done | rfl)); (case hn => first | rfl | (simp; done))) | (refine' wpList_loadCell hR rfl rfl rfl ?hT ?hm ?hv ?_; (case hT => exact inferInstance); (case hm => first | with_reducible assumption | repeat (first | exact List.Mem.head _ | with_reducible assumption | apply List.mem_cons_of_mem)); (case hv => first | rfl | with_reducible assumption)) | (refine' wpList_storeAll hR rfl rfl rfl ?hT rfl ?hs ?zone ?zvn ?hn ?_; (case hT => exact inferInstance); (case hs => repeat (first | exact SetAt.head | apply SetAt.tail)); (case zone => first | rfl | with_reducible assumption); (case zvn => first | rfl | (simp; done)); (case hn => first | rfl | (simp; done)); clear hR; intro w hR) | (refine' wpList_storeCell hR rfl rfl rfl ?hT rfl rfl ?hs ?hn ?hl ?_; (case hT => exact inferInstance); (case hs => repeat (first | exact SetAt.head | apply SetAt.tail)); (case hn => first | exact of_decide_eq_true rfl | (show _ < 4; with_reducible assumption) | (simp; done) | (simp; omega)); (case hl => first | with_reducible assumption | (simp only [List.set_cons_zero, List.set_cons_succ]; done) | (simp only [List.set_cons_zero, List.set_cons_succ]; rfl) | (simp only [nl, List.set_cons_zero, List.set_cons_succ]; done) | (simp only [nl, List.set_cons_zero, List.set_cons_succ]; rfl) | rfl); clear hR; intro w hR) | fail)
    exact hK.out _ _ (agree_of rfl rfl rfl) hR
  case he =>
    clear hR
    intro tm w ht hR K
    simp only [Int.natCast_zero, Int.sub_zero] at ht
    have t1 : ¬ (N : Int) < (N : Int) := by omega
    repeat (first | (obtain ⟨x, tm', e, ht'⟩ := agree_true ht; clear ht; subst e; have ht := ht'; clear ht') | (obtain ⟨tm', e, ht'⟩ := agree_false ht; clear ht; subst e; have ht := ht'; clear ht'))
    obtain rfl := agree_nil ht
    clear ht
    go_wp2_with (first | (refine' wpList_boxRep hR rfl rfl rfl ?_; clear hR; intro blk w hR) | (refine' wpList_allocRep hR rfl rfl ?hT ?_; (case hT => exact inferInstance); clear hR; intro blk w hR) | (refine' wpList_loadAll hR rfl rfl rfl ?hT ?hm ?hn ?_; (case hT => exact inferInstance); (case hm => first | with_reducible assumption | repeat (first | exact List.Mem.head _ | with_reducible assumption | apply List.mem_cons_of_mem)); (case hn => first | rfl | (simp; done))) | (refine' wpList_loadRow hR rfl rfl rfl ?hT ?hm ?hv ?hn ?_; (case hT => exact inferInstance); (case hm => first | with_reducible assumption | repeat (first | exact List.Mem.head _ | with_reducible assumption | apply List.mem_cons_of_mem)); (case hv => first | with_reducible assumption | (simp only [List.drop_succ_cons, List.drop_zero, List.take_succ_cons, List.take_zero]; first | done | rfl)); (case hn => first | rfl | (simp; done))) | (refine' wpList_loadCell hR rfl rfl rfl ?hT ?hm ?hv ?_; (case hT => exact inferInstance); (case hm => first | with_reducible assumption | repeat (first | exact List.Mem.head _ | with_reducible assumption | apply List.mem_cons_of_mem)); (case hv => first | rfl | with_reducible assumption)) | (refine' wpList_storeAll hR rfl rfl rfl ?hT rfl ?hs ?zone ?zvn ?hn ?_; (case hT => exact inferInstance); (case hs => repeat (first | exact SetAt.head | apply SetAt.tail)); (case zone => first | rfl | with_reducible assumption); (case zvn => first | rfl | (simp; done)); (case hn => first | rfl | (simp; done)); clear hR; intro w hR) | (refine' wpList_storeCell hR rfl rfl rfl ?hT rfl rfl ?hs ?hn ?hl ?_; (case hT => exact inferInstance); (case hs => repeat (first | exact SetAt.head | apply SetAt.tail)); (case hn => first | exact of_decide_eq_true rfl | (show _ < 4; with_reducible assumption) | (simp; done) | (simp; omega)); (case hl => first | with_reducible assumption | (simp only [List.set_cons_zero, List.set_cons_succ]; done) | (simp only [List.set_cons_zero, List.set_cons_succ]; rfl) | (simp only [nl, List.set_cons_zero, List.set_cons_succ]; done) | (simp only [nl, List.set_cons_zero, List.set_cons_succ]; rfl) | rfl); clear hR; intro w hR) | fail)
    go_ret
    exact ⟨rfl, hR⟩
end
set_option maxRecDepth 100000 in
set_option maxHeartbeats 4000000 in
theorem of_walk (w : World) (v : Value) (xs : List Nat) (hv : SliceOf w.heap.size w [] v xs) : Calls Try.prog 5 #[v] w fun e w' => e = .returned (.bool true) ∧ Below w.heap.size w w' := by
  have hR := Rep.init w
  obtain ⟨a, cap, hva, h1, h2, h3, h4⟩ := hv
  by_cases hbig : xs.length ≤ 50000
  · have g0 : ¬ (50000 : Int) < (xs.length : Int) := by omega
    have g0' : decide ((50000 : Int) < (xs.length : Int)) = false := decide_eq_false g0
    have hv : SliceOf w.heap.size w [] v xs := ⟨a, cap, hva, h1, h2, h3, h4⟩
    have ct := fun (w' : World) (hw : Rep w.heap.size w [] w') => twin_bytes v xs (by omega) hv hw
    have co := fun (w' : World) (g cap : Nat) (cur : List Value) (hb : BufOk (xs.length + 1) (twF xs) ⟨0, g, cap, cur⟩) (hw : Rep w.heap.size w ((g, .cells cur.toArray 5) :: []) w') => of_F xs (.slice (some ⟨g, 0, none⟩) xs.length cap) (by omega) (buf_slice xs h3 hb) hw
    have cr := fun (w' : World) (g cap : Nat) (cur : List Value) (hw : Rep w.heap.size w ((g, .cells cur.toArray 5) :: []) w') => ref_of v xs (by omega) hv.more hw
    have cl := fun (w' : World) (g cap : Nat) (cur : List Value) (hb : BufOk (xs.length + 1) (twF xs) ⟨0, g, cap, cur⟩) (hw : Rep w.heap.size w ((g, .cells cur.toArray 5) :: []) w') => left_bytes v xs g cap cur (by omega) hb (.head _) hv.more hw
    have q2 := eqH_self (hashF xs)
    generalize hf2 : hashF xs = f2 at *
    subst hva
    replace hf2 := Held.mk hf2
    replace h3 := Held.mk h3
    replace h4 := Held.mk h4
    replace hv := Held.mk hv
    go_enter Try.func5, Try.ntmps5
    go_wp2_with (first | (refine' wpList_boxRep hR rfl rfl rfl ?_; clear hR; intro blk w hR) | (refine' wpList_allocRep hR rfl rfl ?hT ?_; (case hT => exact inferInstance); clear hR; intro blk w hR) | (refine' wpList_loadAll hR rfl rfl rfl ?hT ?hm ?hn ?_; (case hT => exact inferInstance); (case hm => first | with_reducible assumption | repeat (first | exact List.Mem.head _ | with_reducible assumption | apply List.mem_cons_of_mem)); (case hn => first | rfl | (simp; done))) | (refine' wpList_loadRow hR rfl rfl rfl ?hT ?hm ?hv ?hn ?_; (case hT => exact inferInstance); (case hm => first | with_reducible assumption | repeat (first | exact List.Mem.head _ | with_reducible assumption | apply List.mem_cons_of_mem)); (case hv => first | with_reducible assumption | (simp only [List.drop_succ_cons, List.drop_zero, List.take_succ_cons, List.take_zero]; first | done | rfl)); (case hn => first | rfl | (simp; done))) | (refine' wpList_loadCell hR rfl rfl rfl ?hT ?hm ?hv ?_; (case hT => exact inferInstance); (case hm => first | with_reducible assumption | repeat (first | exact List.Mem.head _ | with_reducible assumption | apply List.mem_cons_of_mem)); (case hv => first | rfl | with_reducible assumption)) | (refine' wpList_storeAll hR rfl rfl rfl ?hT rfl ?hs ?zone ?zvn ?hn ?_; (case hT => exact inferInstance); (case hs => repeat (first | exact SetAt.head | apply SetAt.tail)); (case zone => first | rfl | with_reducible assumption); (case zvn => first | rfl | (simp; done)); (case hn => first | rfl | (simp; done)); clear hR; intro w hR) | (refine' wpList_storeCell hR rfl rfl rfl ?hT rfl rfl ?hs ?hn ?hl ?_; (case hT => exact inferInstance); (case hs => repeat (first | exact SetAt.head | apply SetAt.tail)); (case hn => first | exact of_decide_eq_true rfl | (show _ < 4; with_reducible assumption) | (simp; done) | (simp; omega)); (case hl => first | with_reducible assumption | (simp only [List.set_cons_zero, List.set_cons_succ]; done) | (simp only [List.set_cons_zero, List.set_cons_succ]; rfl) | (simp only [nl, List.set_cons_zero, List.set_cons_succ]; done) | (simp only [nl, List.set_cons_zero, List.set_cons_succ]; rfl) | rfl); clear hR; intro w hR) | (refine' wpList_loadAllG hR rfl rfl rfl ?hT ?hm ?hn ?_; (case hT => exact inferInstance); (case hm => first | with_reducible assumption | repeat (first | exact List.Mem.head _ | with_reducible assumption | apply List.mem_cons_of_mem)); (case hn => first | rfl | (simp; done))) | (refine' wpList_loadCellG hR rfl rfl rfl ?hT ?hm ?hv ?_; (case hT => exact inferInstance); (case hm => first | with_reducible assumption | repeat (first | exact List.Mem.head _ | with_reducible assumption | apply List.mem_cons_of_mem)); (case hv => first | rfl | with_reducible assumption)) | (go_at_call 13; refine (ct _ hR).mono ?_; clear hR; rintro e w ⟨g, cap', rfl, cur, hb, hR⟩) | (go_at_call 14; refine (co _ _ _ _ hb hR).mono ?_; clear hR; rintro e w ⟨rfl, hR⟩) | (go_at_call 15; refine (cr _ _ 0 _ hR).mono ?_; clear hR; rintro e w ⟨rfl, hR⟩) | (go_at_call 16; refine (cl _ _ _ _ hb hR).mono ?_; clear hR; rintro e w ⟨rfl, hR⟩))
    go_ret
    exact ⟨rfl, hR.below⟩
  · have g0 : (50000 : Int) < (xs.length : Int) := by omega
    subst hva
    clear h3 h4
    go_enter Try.func5, Try.ntmps5
    go_wp2_with (first | (refine' wpList_boxRep hR rfl rfl rfl ?_; clear hR; intro blk w hR) | (refine' wpList_allocRep hR rfl rfl ?hT ?_; (case hT => exact inferInstance); clear hR; intro blk w hR) | (refine' wpList_loadAll hR rfl rfl rfl ?hT ?hm ?hn ?_; (case hT => exact inferInstance); (case hm => first | with_reducible assumption | repeat (first | exact List.Mem.head _ | with_reducible assumption | apply List.mem_cons_of_mem)); (case hn => first | rfl | (simp; done))) | (refine' wpList_loadRow hR rfl rfl rfl ?hT ?hm ?hv ?hn ?_; (case hT => exact inferInstance); (case hm => first | with_reducible assumption | repeat (first | exact List.Mem.head _ | with_reducible assumption | apply List.mem_cons_of_mem)); (case hv => first | with_reducible assumption | (simp only [List.drop_succ_cons, List.drop_zero, List.take_succ_cons, List.take_zero]; first | done | rfl)); (case hn => first | rfl | (simp; done))) | (refine' wpList_loadCell hR rfl rfl rfl ?hT ?hm ?hv ?_; (case hT => exact inferInstance); (case hm => first | with_reducible assumption | repeat (first | exact List.Mem.head _ | with_reducible assumption | apply List.mem_cons_of_mem)); (case hv => first | rfl | with_reducible assumption)) | (refine' wpList_storeAll hR rfl rfl rfl ?hT rfl ?hs ?zone ?zvn ?hn ?_; (case hT => exact inferInstance); (case hs => repeat (first | exact SetAt.head | apply SetAt.tail)); (case zone => first | rfl | with_reducible assumption); (case zvn => first | rfl | (simp; done)); (case hn => first | rfl | (simp; done)); clear hR; intro w hR) | (refine' wpList_storeCell hR rfl rfl rfl ?hT rfl rfl ?hs ?hn ?hl ?_; (case hT => exact inferInstance); (case hs => repeat (first | exact SetAt.head | apply SetAt.tail)); (case hn => first | exact of_decide_eq_true rfl | (show _ < 4; with_reducible assumption) | (simp; done) | (simp; omega)); (case hl => first | with_reducible assumption | (simp only [List.set_cons_zero, List.set_cons_succ]; done) | (simp only [List.set_cons_zero, List.set_cons_succ]; rfl) | (simp only [nl, List.set_cons_zero, List.set_cons_succ]; done) | (simp only [nl, List.set_cons_zero, List.set_cons_succ]; rfl) | rfl); clear hR; intro w hR) | (refine' wpList_loadAllG hR rfl rfl rfl ?hT ?hm ?hn ?_; (case hT => exact inferInstance); (case hm => first | with_reducible assumption | repeat (first | exact List.Mem.head _ | with_reducible assumption | apply List.mem_cons_of_mem)); (case hn => first | rfl | (simp; done))) | (refine' wpList_loadCellG hR rfl rfl rfl ?hT ?hm ?hv ?_; (case hT => exact inferInstance); (case hm => first | with_reducible assumption | repeat (first | exact List.Mem.head _ | with_reducible assumption | apply List.mem_cons_of_mem)); (case hv => first | rfl | with_reducible assumption)) | fail)
    go_ret
    exact ⟨rfl, hR.below⟩
end Go.Proofs.Ytllmpiamcghboaa
