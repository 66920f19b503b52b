/- The contracts of shas.New, (*Sum).Write, shas.Of. -/
import Derived.Test.YtllmpiamcghboaaShaHash
set_option linter.unusedSimpArgs false
set_option linter.unusedVariables false
namespace Go.Proofs.Ytllmpiamcghboaa
open Go.RowKit
attribute [local irreducible] Calls

instance : CellT Try.prog 25 := .mk' (by kernel_rfl) (by kernel_rfl)
/-- Bytes as a slice, in every world of the class. -/
def SliceOf (B0 : Nat) (w0 : World) (L : List (Nat × Obj)) (v : Value) (xs : List Nat) : Prop := ∃ a cap, v = .slice a xs.length cap ∧ xs.length ≤ cap ∧ cap ≤ maxLen ∧ (∀ j, xs.getD j 0 < 256) ∧
  (xs ≠ [] → ∃ bb off, a = some ⟨bb, off, none⟩ ∧ ∀ w, Rep B0 w0 L w → ∀ j, j < xs.length → w.cell? ⟨bb, off + j, none⟩ = some (.int .u8 (xs.getD j 0 : Nat)))
theorem SliceOf.mono {B0 : Nat} {w0 : World} {L L' : List (Nat × Obj)} {v : Value} {xs : List Nat} (h : SliceOf B0 w0 L v xs) (hL : ∀ w, Rep B0 w0 L' w → Rep B0 w0 L w) : SliceOf B0 w0 L' v xs := by
  obtain ⟨a, cap, h1, h2, h3, h4, h5⟩ := h
  exact ⟨a, cap, h1, h2, h3, h4, fun hx => by
    obtain ⟨bb, off, h6, h7⟩ := h5 hx
    exact ⟨bb, off, h6, fun w hw => h7 w (hL w hw)⟩⟩
theorem SliceOf.more {B0 : Nat} {w0 : World} {L : List (Nat × Obj)} {p : Nat × Obj} {v : Value} {xs : List Nat} (h : SliceOf B0 w0 L v xs) : SliceOf B0 w0 (p :: L) v xs := h.mono fun w hw => hw.drop1

section
variable {B0 : Nat} {w0 w : World} {L : List (Nat × Obj)}
set_option maxRecDepth 100000 in
set_option maxHeartbeats 1000000 in
theorem writes_none (p : Option Addr) (a : Option Addr) (cap : Nat) (hR : Rep B0 w0 L w) : Calls Try.prog 21 #[.pointer p, .slice a 0 cap] w fun e w' => e = .returned (.tuple #[]) ∧ Rep B0 w0 L w' := by
  go_enter Try.func21, Try.ntmps21
  go_wp2_with (first | (refine' wpList_boxRep hR rfl rfl rfl ?_; clear hR; intro blk w hR) | (refine' wpList_allocRep hR rfl rfl ?hT ?_; (case hT => exact inferInstance); clear hR; intro blk w hR) | (refine' wpList_loadAll hR rfl rfl rfl ?hT ?hm ?hn ?_; (case hT => exact inferInstance); (case hm => first | with_reducible assumption | repeat (first | exact List.Mem.head _ | apply List.Mem.tail)); (case hn => first | rfl | (simp; done))) | (refine' wpList_loadRow hR rfl rfl rfl ?hT ?hm ?hv ?hn ?_; (case hT => exact inferInstance); (case hm => first | with_reducible assumption | repeat (first | exact List.Mem.head _ | apply List.Mem.tail)); (case hv => first | with_reducible assumption | (simp only [List.drop_succ_cons, List.drop_zero, List.take_succ_cons, List.take_zero]; first | done | rfl)); (case hn => first | rfl | (simp; done))) | (refine' wpList_loadCell hR rfl rfl rfl ?hT ?hm ?hv ?_; (case hT => exact inferInstance); (case hm => first | with_reducible assumption | repeat (first | exact List.Mem.head _ | apply List.Mem.tail)); (case hv => first | rfl | with_reducible assumption)) | (refine' wpList_storeAll hR rfl rfl rfl ?hT rfl ?hs ?zone ?zvn ?hn ?_; (case hT => exact inferInstance); (case hs => repeat (first | exact SetAt.head | apply SetAt.tail)); (case zone => first | rfl | with_reducible assumption); (case zvn => first | rfl | (simp; done)); (case hn => first | rfl | (simp; done)); clear hR; intro w hR) | (refine' wpList_storeCell hR rfl rfl rfl ?hT rfl rfl ?hs ?hn ?hl ?_; (case hT => exact inferInstance); (case hs => repeat (first | exact SetAt.head | apply SetAt.tail)); (case hn => first | exact of_decide_eq_true rfl | (show _ < 4; with_reducible assumption) | (simp; done) | (simp; omega)); (case hl => first | with_reducible assumption | (simp only [List.set_cons_zero, List.set_cons_succ]; done) | (simp only [List.set_cons_zero, List.set_cons_succ]; rfl) | (simp only [nl, List.set_cons_zero, List.set_cons_succ]; done) | (simp only [nl, List.set_cons_zero, List.set_cons_succ]; rfl) | rfl); clear hR; intro w hR) | fail)
  refine wp_loop_rounds 1 ?_
  rw [rounds_succ]
  go_wp2_with (first | (refine' wpList_boxRep hR rfl rfl rfl ?_; clear hR; intro blk w hR) | (refine' wpList_allocRep hR rfl rfl ?hT ?_; (case hT => exact inferInstance); clear hR; intro blk w hR) | (refine' wpList_loadAll hR rfl rfl rfl ?hT ?hm ?hn ?_; (case hT => exact inferInstance); (case hm => first | with_reducible assumption | repeat (first | exact List.Mem.head _ | apply List.Mem.tail)); (case hn => first | rfl | (simp; done))) | (refine' wpList_loadRow hR rfl rfl rfl ?hT ?hm ?hv ?hn ?_; (case hT => exact inferInstance); (case hm => first | with_reducible assumption | repeat (first | exact List.Mem.head _ | apply List.Mem.tail)); (case hv => first | with_reducible assumption | (simp only [List.drop_succ_cons, List.drop_zero, List.take_succ_cons, List.take_zero]; first | done | rfl)); (case hn => first | rfl | (simp; done))) | (refine' wpList_loadCell hR rfl rfl rfl ?hT ?hm ?hv ?_; (case hT => exact inferInstance); (case hm => first | with_reducible assumption | repeat (first | exact List.Mem.head _ | apply List.Mem.tail)); (case hv => first | rfl | with_reducible assumption)) | (refine' wpList_storeAll hR rfl rfl rfl ?hT rfl ?hs ?zone ?zvn ?hn ?_; (case hT => exact inferInstance); (case hs => repeat (first | exact SetAt.head | apply SetAt.tail)); (case zone => first | rfl | with_reducible assumption); (case zvn => first | rfl | (simp; done)); (case hn => first | rfl | (simp; done)); clear hR; intro w hR) | (refine' wpList_storeCell hR rfl rfl rfl ?hT rfl rfl ?hs ?hn ?hl ?_; (case hT => exact inferInstance); (case hs => repeat (first | exact SetAt.head | apply SetAt.tail)); (case hn => first | exact of_decide_eq_true rfl | (show _ < 4; with_reducible assumption) | (simp; done) | (simp; omega)); (case hl => first | with_reducible assumption | (simp only [List.set_cons_zero, List.set_cons_succ]; done) | (simp only [List.set_cons_zero, List.set_cons_succ]; rfl) | (simp only [nl, List.set_cons_zero, List.set_cons_succ]; done) | (simp only [nl, List.set_cons_zero, List.set_cons_succ]; rfl) | rfl); clear hR; intro w hR) | fail)
  go_end0
  exact ⟨rfl, hR⟩
theorem writes_any (sb : Nat) (m xs : List Nat) (r : Nat → Nat) (v : Value) (hr : TailOk m r) (hbig : m.length + xs.length < 1000000000000) (hv : SliceOf B0 w0 L v xs) (hR : Rep B0 w0 ((sb, sumC m r) :: L) w) :
    Calls Try.prog 21 #[.pointer (some ⟨sb, 0, none⟩), v] w fun e w' => e = .returned (.tuple #[]) ∧ ∃ r', TailOk (m ++ xs) r' ∧ Rep B0 w0 ((sb, sumC (m ++ xs) r') :: L) w' := by
  obtain ⟨a, cap, rfl, h2, h3, h4, h5⟩ := hv
  by_cases hx : xs = []
  · subst hx
    rw [List.append_nil]
    exact (writes_none _ a cap hR).mono fun e w' ⟨he, hR'⟩ => ⟨he, r, hr, hR'⟩
  · obtain ⟨bb, off, rfl, h6⟩ := h5 hx
    exact writes_some sb m xs r bb off cap h4 hr hbig h2 h3 hR h6
set_option maxRecDepth 100000 in
set_option maxHeartbeats 1000000 in
theorem write_any (sb : Nat) (m xs : List Nat) (r : Nat → Nat) (v : Value) (hr : TailOk m r) (hbig : m.length + xs.length < 1000000000000) (hv : SliceOf B0 w0 L v xs) (hR : Rep B0 w0 ((sb, sumC m r) :: L) w) :
    Calls Try.prog 11 #[.pointer (some ⟨sb, 0, none⟩), v] w fun e w' => e = .returned (.int .i64 0) ∧ ∃ r', TailOk (m ++ xs) r' ∧ Rep B0 w0 ((sb, sumC (m ++ xs) r') :: L) w' := by
  have cw := fun (w : World) (hw : Rep B0 w0 ((sb, sumC m r) :: L) w) => writes_any sb m xs r v hr hbig hv hw
  have s0 := sumL_made (blocksN m (m.length / 64)) r m.length
  go_enter Try.func11, Try.ntmps11
  go_wp2_with (first | (refine' wpList_boxRep hR rfl rfl rfl ?_; clear hR; intro blk w hR) | (refine' wpList_allocRep hR rfl rfl ?hT ?_; (case hT => exact inferInstance); clear hR; intro blk w hR) | (refine' wpList_loadAll hR rfl rfl rfl ?hT ?hm ?hn ?_; (case hT => exact inferInstance); (case hm => first | with_reducible assumption | repeat (first | exact List.Mem.head _ | apply List.Mem.tail)); (case hn => first | rfl | (simp; done))) | (refine' wpList_loadRow hR rfl rfl rfl ?hT ?hm ?hv ?hn ?_; (case hT => exact inferInstance); (case hm => first | with_reducible assumption | repeat (first | exact List.Mem.head _ | apply List.Mem.tail)); (case hv => first | with_reducible assumption | (simp only [List.drop_succ_cons, List.drop_zero, List.take_succ_cons, List.take_zero]; first | done | rfl)); (case hn => first | rfl | (simp; done))) | (refine' wpList_loadCell hR rfl rfl rfl ?hT ?hm ?hv ?_; (case hT => exact inferInstance); (case hm => first | with_reducible assumption | repeat (first | exact List.Mem.head _ | apply List.Mem.tail)); (case hv => first | rfl | with_reducible assumption)) | (refine' wpList_storeAll hR rfl rfl rfl ?hT rfl ?hs ?zone ?zvn ?hn ?_; (case hT => exact inferInstance); (case hs => repeat (first | exact SetAt.head | apply SetAt.tail)); (case zone => first | rfl | with_reducible assumption); (case zvn => first | rfl | (simp; done)); (case hn => first | rfl | (simp; done)); clear hR; intro w hR) | (refine' wpList_storeCell hR rfl rfl rfl ?hT rfl rfl ?hs ?hn ?hl ?_; (case hT => exact inferInstance); (case hs => repeat (first | exact SetAt.head | apply SetAt.tail)); (case hn => first | exact of_decide_eq_true rfl | (show _ < 4; with_reducible assumption) | (simp; done) | (simp; omega)); (case hl => first | with_reducible assumption | (simp only [List.set_cons_zero, List.set_cons_succ]; done) | (simp only [List.set_cons_zero, List.set_cons_succ]; rfl) | (simp only [nl, List.set_cons_zero, List.set_cons_succ]; done) | (simp only [nl, List.set_cons_zero, List.set_cons_succ]; rfl) | rfl); clear hR; intro w hR) | (refine' wpList_loadAllG hR rfl rfl rfl ?hT ?hm ?hn ?_; (case hT => exact inferInstance); (case hm => first | with_reducible assumption | repeat (first | exact List.Mem.head _ | apply List.Mem.tail)); (case hn => first | rfl | (simp; done))) | (refine' wpList_loadCellG hR rfl rfl rfl ?hT ?hm ?hv ?_; (case hT => exact inferInstance); (case hm => first | with_reducible assumption | repeat (first | exact List.Mem.head _ | apply List.Mem.tail)); (case hv => first | rfl | with_reducible assumption)) | (go_at_call 21; refine (cw _ hR).mono ?_; clear hR; rintro e w ⟨rfl, r', htl, hR⟩))
  go_ret
  exact ⟨rfl, r', htl, hR⟩

theorem wpList_build2 {P : Program} {ops : Array Oper} {rest : List Oper} {o : Oper} {a : Act} {w : World} {Q : Exit → Act → World → Prop} (hg : o.guard = none) {t : TypeId} {x y : Operand} (hop : o.op = .build t #[(0, x), (1, y)]) {vx vy v : Value} (hx : ev a x = some vx) (hy : ev a y = some vy)
    (hrun : ∀ w, (Instr.build t #[(0, vx), (1, vy)]).run P w = .ok v w) (h : wpList P ops Q rest (a.put o.dst v) w) : wpList P ops Q (o :: rest) a w :=
  wpList_plain hg fun _ hK => by
    have hx := ev_eval hx
    have hy := ev_eval hy
    unfold Oper.wp execOp
    simp only [hop, List.map_toArray, List.map_cons, List.map_nil, hx, hy, hrun, Sem.run_bind, Result.andThen_ok, Sem.run_pure]
    exact hK _ _ h
theorem new_build (w : World) : (Instr.build 31 #[(0, .int .i64 1), (1, .agg (s8L beginN).toArray)]).run Try.prog w = .ok (.agg (sumL beginN (fun _ => 0) 0).toArray) w := by
  rw [sumL_def, u8s_def]; kernel_rfl
theorem tail_nil : TailOk [] fun _ => 0 := ⟨fun _ => (by decide : 0 < 256), fun j hj => (by simp at hj)⟩
set_option maxRecDepth 100000 in
set_option maxHeartbeats 1000000 in
theorem new_any (hR : Rep B0 w0 L w) : Calls Try.prog 19 #[] w fun e w' => ∃ sb, e = .returned (.pointer (some ⟨sb, 0, none⟩)) ∧ Rep B0 w0 ((sb, sumC [] fun _ => 0) :: L) w' := by
  have cb := fun w => begin_any w
  have hb := new_build
  have e0 : sumC [] (fun _ => 0) = .cells (sumL beginN (fun _ => 0) 0).toArray 31 := rfl
  rw [e0]
  clear e0
  generalize s8L beginN = sl at *
  generalize sumL beginN (fun _ => 0) 0 = su at *
  go_enter Try.func19, Try.ntmps19
  go_wp2_with (first | (refine' wpList_boxRep hR rfl rfl rfl ?_; clear hR; intro blk w hR) | (refine' wpList_allocRep hR rfl rfl ?hT ?_; (case hT => exact inferInstance); clear hR; intro blk w hR) | (refine' wpList_loadAll hR rfl rfl rfl ?hT ?hm ?hn ?_; (case hT => exact inferInstance); (case hm => first | with_reducible assumption | repeat (first | exact List.Mem.head _ | apply List.Mem.tail)); (case hn => first | rfl | (simp; done))) | (refine' wpList_loadRow hR rfl rfl rfl ?hT ?hm ?hv ?hn ?_; (case hT => exact inferInstance); (case hm => first | with_reducible assumption | repeat (first | exact List.Mem.head _ | apply List.Mem.tail)); (case hv => first | with_reducible assumption | (simp only [List.drop_succ_cons, List.drop_zero, List.take_succ_cons, List.take_zero]; first | done | rfl)); (case hn => first | rfl | (simp; done))) | (refine' wpList_loadCell hR rfl rfl rfl ?hT ?hm ?hv ?_; (case hT => exact inferInstance); (case hm => first | with_reducible assumption | repeat (first | exact List.Mem.head _ | apply List.Mem.tail)); (case hv => first | rfl | with_reducible assumption)) | (refine' wpList_storeAll hR rfl rfl rfl ?hT rfl ?hs ?zone ?zvn ?hn ?_; (case hT => exact inferInstance); (case hs => repeat (first | exact SetAt.head | apply SetAt.tail)); (case zone => first | rfl | with_reducible assumption); (case zvn => first | rfl | (simp; done)); (case hn => first | rfl | (simp; done)); clear hR; intro w hR) | (refine' wpList_storeCell hR rfl rfl rfl ?hT rfl rfl ?hs ?hn ?hl ?_; (case hT => exact inferInstance); (case hs => repeat (first | exact SetAt.head | apply SetAt.tail)); (case hn => first | exact of_decide_eq_true rfl | (show _ < 4; with_reducible assumption) | (simp; done) | (simp; omega)); (case hl => first | with_reducible assumption | (simp only [List.set_cons_zero, List.set_cons_succ]; done) | (simp only [List.set_cons_zero, List.set_cons_succ]; rfl) | (simp only [nl, List.set_cons_zero, List.set_cons_succ]; done) | (simp only [nl, List.set_cons_zero, List.set_cons_succ]; rfl) | rfl); clear hR; intro w hR) | (go_at_call 25; refine (cb _).mono ?_; rintro e w ⟨rfl, hb⟩; replace hR := hR.call hb; clear hb) | (refine' wpList_build2 rfl rfl rfl rfl hb ?_))
  go_ret
  exact ⟨_, rfl, hR⟩
set_option maxRecDepth 100000 in
set_option maxHeartbeats 1000000 in
theorem of_hash (xs : List Nat) (v : Value) (hbig : xs.length < 100000000000) (hv : SliceOf B0 w0 L v xs) (hR : Rep B0 w0 L w) :
    Calls Try.prog 14 #[v] w fun e w' => e = .returned (.agg (u8s 32 fun i => (hashN xs).getD i 0).toArray) ∧ Rep B0 w0 L w' := by
  have hone := u8s_one 32 fun i => (hashN xs).getD i 0
  obtain ⟨out, hout⟩ : ∃ out, (fun i => (hashN xs).getD i 0) = out := ⟨_, rfl⟩
  rw [hout] at hone ⊢
  have ch : ∀ (L : List (Nat × Obj)) (w : World) (sb : Nat) (r : Nat → Nat) (hr : TailOk xs r), Rep B0 w0 ((sb, sumC xs r) :: L) w → Calls Try.prog 12 #[.pointer (some ⟨sb, 0, none⟩)] w fun e w' => e = .returned (.agg (u8s 32 out).toArray) ∧ Rep B0 w0 ((sb, sumC xs r) :: L) w' := fun L w sb r hr hw => by
    rw [← hout]; exact hash_any sb xs r hr (by omega) hw
  have cw : ∀ (p : Nat × Obj) (w : World) (sb : Nat), Rep B0 w0 ((sb, sumC [] fun _ => 0) :: p :: L) w → Calls Try.prog 21 #[.pointer (some ⟨sb, 0, none⟩), v] w fun e w' => e = .returned (.tuple #[]) ∧ ∃ r', TailOk xs r' ∧ Rep B0 w0 ((sb, sumC xs r') :: p :: L) w' := fun p w sb hw => by
    have := writes_any sb [] xs (fun _ => 0) v tail_nil (by simp; omega) hv.more hw
    rw [List.nil_append] at this
    exact this
  have cn := fun (L : List (Nat × Obj)) (w : World) (hw : Rep B0 w0 L w) => new_any hw
  clear hout hv hbig
  go_enter Try.func14, Try.ntmps14
  go_wp2_with (first | (refine' wpList_boxRep hR rfl rfl rfl ?_; clear hR; intro blk w hR) | (refine' wpList_allocRep hR rfl rfl ?hT ?_; (case hT => exact inferInstance); clear hR; intro blk w hR) | (refine' wpList_loadAll hR rfl rfl rfl ?hT ?hm ?hn ?_; (case hT => exact inferInstance); (case hm => first | with_reducible assumption | repeat (first | exact List.Mem.head _ | apply List.Mem.tail)); (case hn => first | rfl | (simp; done))) | (refine' wpList_loadRow hR rfl rfl rfl ?hT ?hm ?hv ?hn ?_; (case hT => exact inferInstance); (case hm => first | with_reducible assumption | repeat (first | exact List.Mem.head _ | apply List.Mem.tail)); (case hv => first | with_reducible assumption | (simp only [List.drop_succ_cons, List.drop_zero, List.take_succ_cons, List.take_zero]; first | done | rfl)); (case hn => first | rfl | (simp; done))) | (refine' wpList_loadCell hR rfl rfl rfl ?hT ?hm ?hv ?_; (case hT => exact inferInstance); (case hm => first | with_reducible assumption | repeat (first | exact List.Mem.head _ | apply List.Mem.tail)); (case hv => first | rfl | with_reducible assumption)) | (refine' wpList_storeAll hR rfl rfl rfl ?hT rfl ?hs ?zone ?zvn ?hn ?_; (case hT => exact inferInstance); (case hs => repeat (first | exact SetAt.head | apply SetAt.tail)); (case zone => first | rfl | with_reducible assumption); (case zvn => first | rfl | (simp; done)); (case hn => first | rfl | (simp; done)); clear hR; intro w hR) | (refine' wpList_storeCell hR rfl rfl rfl ?hT rfl rfl ?hs ?hn ?hl ?_; (case hT => exact inferInstance); (case hs => repeat (first | exact SetAt.head | apply SetAt.tail)); (case hn => first | exact of_decide_eq_true rfl | (show _ < 4; with_reducible assumption) | (simp; done) | (simp; omega)); (case hl => first | with_reducible assumption | (simp only [List.set_cons_zero, List.set_cons_succ]; done) | (simp only [List.set_cons_zero, List.set_cons_succ]; rfl) | (simp only [nl, List.set_cons_zero, List.set_cons_succ]; done) | (simp only [nl, List.set_cons_zero, List.set_cons_succ]; rfl) | rfl); clear hR; intro w hR) | (go_at_call 19; refine (cn _ _ hR).mono ?_; clear hR; rintro e w ⟨sb, rfl, hR⟩) | (go_at_call 21; refine (cw _ _ _ hR).mono ?_; clear hR; rintro e w ⟨rfl, r', htl, hR⟩) | (go_at_call 12; refine (ch _ _ _ _ htl hR).mono ?_; clear hR; rintro e w ⟨rfl, hR⟩))
  (refine' bodyPost_ret (results_c Try.results14 rfl (hR.loadAll (P := Try.prog) (ty := 36) ?hm ?hn)) rfl ⟨rfl, hR.drop1.drop1⟩; (case hm => exact .tail _ (.head _)); (case hn => simp))
end
end Go.Proofs.Ytllmpiamcghboaa
