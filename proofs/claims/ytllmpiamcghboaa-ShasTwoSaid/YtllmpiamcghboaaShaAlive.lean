/- balefirelaw05.alive. -/
import Derived.Test.YtllmpiamcghboaaShaText
set_option linter.unusedSimpArgs false
set_option linter.unusedVariables false
namespace Go.Proofs.Ytllmpiamcghboaa
open Go.RowKit
attribute [local irreducible] Calls

/-- A message's hash, byte by byte. -/
noncomputable def hashF (m : List Nat) : Nat → Nat := opq fun i => (hashN m).getD i 0
theorem hashF_eq (m : List Nat) : hashF m = fun i => (hashN m).getD i 0 := by unfold hashF; rw [opq_eq]
theorem hashF_lt (m : List Nat) (i : Nat) : hashF m i < 256 := by
  rw [hashF_eq]
  show (hashN m).getD i 0 < 256
  unfold hashN bytesN
  rw [List.getD_eq_getElem?_getD, List.getElem?_map]
  cases h : (List.range 32)[i]? with
  | none => exact (by decide : 0 < 256)
  | some j => exact Nat.mod_lt _ (by decide)
section
variable {P : Program} {ops : Array Oper} {rest : List Oper} {o : Oper} {a : Act} {w w0 : World} {Q : Exit → Act → World → Prop} {B0 : Nat} {L : List (Nat × Obj)}
theorem hash_F (sb : Nat) (m : List Nat) (r : Nat → Nat) (hr : TailOk m r) (hbig : m.length < 100000000000) (hR : Rep B0 w0 ((sb, sumC m r) :: L) w) :
    Calls Try.prog 12 #[.pointer (some ⟨sb, 0, none⟩)] w fun e w' => e = .returned (.agg (u8s 32 (hashF m)).toArray) ∧ Rep B0 w0 ((sb, sumC m r) :: L) w' := by
  rw [hashF_eq]; exact hash_any sb m r hr hbig hR
theorem of_F (xs : List Nat) (v : Value) (hbig : xs.length < 100000000000) (hv : SliceOf B0 w0 L v xs) (hR : Rep B0 w0 L w) :
    Calls Try.prog 14 #[v] w fun e w' => e = .returned (.agg (u8s 32 (hashF xs)).toArray) ∧ Rep B0 w0 L w' := by
  rw [hashF_eq]; exact of_hash xs v hbig hv hR
theorem sliceOf_nil : SliceOf B0 w0 L (.slice none 0 0) [] := ⟨none, 0, rfl, Nat.le_refl _, Nat.zero_le _, fun _ => (by decide : 0 < 256), fun h => absurd rfl h⟩
theorem sliceOf_own {b n : Nat} {l : List Value} {t : TypeId} (xs : List Nat) {fr : Nat × Nat} (hm : (b, Obj.cells l.toArray t fr) ∈ L) (hl : l = xs.map fun x : Nat => Value.int .u8 (x : Int)) (hn : xs.length = n) (hb : ∀ j, xs.getD j 0 < 256) (hbig : n < 1000) : SliceOf B0 w0 L (.slice (some ⟨b, 0, none⟩) n n) xs :=
  ⟨some ⟨b, 0, none⟩, n, by rw [hn], by omega, by unfold maxLen; omega, hb, fun _ => ⟨b, 0, rfl, fun w hw j hj => by
    rw [Nat.zero_add]
    have hh := (hw.own _ hm).2
    simp only at hh
    simp only [World.cell?, hh, Option.isSome_none, Bool.false_eq_true, if_false, List.getElem?_toArray]
    subst hl
    rw [List.getElem?_map, List.getElem?_eq_getElem hj, List.getD_eq_getElem?_getD, List.getElem?_eq_getElem hj]
    rfl⟩⟩
theorem wpList_sliceG (hR : Rep B0 w0 L w) (hw : Region.wanted o (yielded ops a.tmps) = true) {ty el : TypeId} {n : Nat} {parts : Array (Nat × Operand)} (hop : o.op = .buildSlice ty n parts) (l : List Value)
    (hrun : ∀ w, (Instr.buildSlice ty n (parts.map fun p => (p.1, a.eval p.2))).run P w = .ok (.slice (some ⟨w.heap.size, 0, none⟩) n n) (w.alloc (.cells l.toArray el)))
    (h : ∀ b w', Rep B0 w0 ((b, .cells l.toArray el) :: L) w' → wpList P ops Q rest (a.put o.dst (.slice (some ⟨b, 0, none⟩) n n)) w') : wpList P ops Q (o :: rest) a w :=
  wpList_wanted hw fun _ hK => by
    unfold Oper.wp execOp
    simp only [hop, hrun, Sem.run_bind, Result.andThen_ok, Sem.run_pure]
    exact hK _ _ (h _ _ (hR.alloc _))
end
/-- A constant's bytes are marked. -/
theorem conv_rep {B0 : Nat} {w0 w : World} {L : List (Nat × Obj)} {b m c : Nat} {l : List Value} (hR : Rep B0 w0 ((b, .cells l.toArray 5) :: L) w) : ∃ w', (convert 24 24 (.slice (some ⟨b, 0, none⟩) m c)).run Try.prog w = .ok (.slice (some ⟨b, 0, none⟩) m c) w' ∧ Rep B0 w0 ((b, .cells l.toArray 5 (l.length, l.length + 1)) :: L) w' := by
  have hh := (hR.own _ (.head _)).2
  have hsh : w.shape? b = some (5, l.length) := by
    unfold World.shape?
    simp only at hh
    rw [hh]
    simp
  refine ⟨w.freeze ⟨b, l.length, none⟩ 1, ?_, hR.put SetAt.head ?_ (fun k hk => ?_) ?_ ?_ ?_ ?_⟩
  · simp [convert, run_underlying Try.underlying24, run_underlying Try.underlying5, markStringish, hsh]
  · simp only at hh
    simp [World.freeze, Array.getElem?_modify, hh]
  · simp [World.freeze, Array.getElem?_modify, Ne.symm hk]
  · simp [World.freeze]
  · simp [World.freeze]
  · simp [World.freeze]
  · simp [World.freeze]
theorem wpList_convRep {ops : Array Oper} {rest : List Oper} {o : Oper} {a : Act} {w w0 : World} {Q : Exit → Act → World → Prop} {B0 : Nat} {L : List (Nat × Obj)} {b m c : Nat} {l : List Value} (hR : Rep B0 w0 ((b, .cells l.toArray 5) :: L) w) (hw : Region.wanted o (yielded ops a.tmps) = true) {x : Operand}
    (hop : o.op = .convert 24 24 x) (hx : a.eval x = .slice (some ⟨b, 0, none⟩) m c) (h : ∀ w', Rep B0 w0 ((b, .cells l.toArray 5 (l.length, l.length + 1)) :: L) w' → wpList Try.prog ops Q rest (a.put o.dst (.slice (some ⟨b, 0, none⟩) m c)) w') : wpList Try.prog ops Q (o :: rest) a w :=
  wpList_wanted hw fun _ hK => by
    obtain ⟨w', e, hR'⟩ := conv_rep (m := m) (c := c) hR
    unfold Oper.wp execOp
    simp only [hop, hx, e, Sem.run_bind, Result.andThen_ok, Sem.run_pure]
    exact hK _ _ (h _ hR')
theorem byte1 : ∀ j, ([97] : List Nat).getD j 0 < 256 := fun j => by
  match j with
  | 0 => decide
  | n + 1 => exact (by decide : 0 < 256)
theorem byte2 : ∀ j, ([98, 99] : List Nat).getD j 0 < 256 := fun j => by
  match j with
  | 0 => decide
  | 1 => decide
  | n + 2 => exact (by decide : 0 < 256)
theorem byte3 : ∀ j, ([97, 98, 99] : List Nat).getD j 0 < 256 := fun j => by
  match j with
  | 0 => decide
  | 1 => decide
  | 2 => decide
  | n + 3 => exact (by decide : 0 < 256)

set_option maxRecDepth 100000 in
set_option maxHeartbeats 4000000 in
theorem alive5 (w : World) : Calls Try.prog 20 #[] w fun e w' => e = .returned (.bool true) ∧ Below w.heap.size w w' := by
  have hR := Rep.init w
  have t1 := text_none
  have t2 := text_abc
  rw [← hashF_eq] at t1 t2
  have q1 : ∀ m, eqH (hashF m) (hashF m) = true := fun m => eqH_self _
  have q2 := q1 [97, 98, 99]
  clear q1
  go_enter Try.func20, Try.ntmps20
  go_wp2_with (first | (refine' wpList_boxRep hR rfl rfl rfl ?_; clear hR; intro blk w hR) | (refine' wpList_allocRep hR rfl rfl ?hT ?_; (case hT => exact inferInstance); clear hR; intro blk w hR) | (refine' wpList_loadAll hR rfl rfl rfl ?hT ?hm ?hn ?_; (case hT => exact inferInstance); (case hm => first | with_reducible assumption | repeat (first | exact List.Mem.head _ | apply List.Mem.tail)); (case hn => first | rfl | (simp; done))) | (refine' wpList_loadRow hR rfl rfl rfl ?hT ?hm ?hv ?hn ?_; (case hT => exact inferInstance); (case hm => first | with_reducible assumption | repeat (first | exact List.Mem.head _ | apply List.Mem.tail)); (case hv => first | with_reducible assumption | (simp only [List.drop_succ_cons, List.drop_zero, List.take_succ_cons, List.take_zero]; first | done | rfl)); (case hn => first | rfl | (simp; done))) | (refine' wpList_loadCell hR rfl rfl rfl ?hT ?hm ?hv ?_; (case hT => exact inferInstance); (case hm => first | with_reducible assumption | repeat (first | exact List.Mem.head _ | apply List.Mem.tail)); (case hv => first | rfl | with_reducible assumption)) | (refine' wpList_storeAll hR rfl rfl rfl ?hT rfl ?hs ?zone ?zvn ?hn ?_; (case hT => exact inferInstance); (case hs => repeat (first | exact SetAt.head | apply SetAt.tail)); (case zone => first | rfl | with_reducible assumption); (case zvn => first | rfl | (simp; done)); (case hn => first | rfl | (simp; done)); clear hR; intro w hR) | (refine' wpList_storeCell hR rfl rfl rfl ?hT rfl rfl ?hs ?hn ?hl ?_; (case hT => exact inferInstance); (case hs => repeat (first | exact SetAt.head | apply SetAt.tail)); (case hn => first | exact of_decide_eq_true rfl | (show _ < 4; with_reducible assumption) | (simp; done) | (simp; omega)); (case hl => first | with_reducible assumption | (simp only [List.set_cons_zero, List.set_cons_succ]; done) | (simp only [List.set_cons_zero, List.set_cons_succ]; rfl) | (simp only [nl, List.set_cons_zero, List.set_cons_succ]; done) | (simp only [nl, List.set_cons_zero, List.set_cons_succ]; rfl) | rfl); clear hR; intro w hR) | (refine' wpList_loadAllG hR rfl rfl rfl ?hT ?hm ?hn ?_; (case hT => exact inferInstance); (case hm => first | with_reducible assumption | repeat (first | exact List.Mem.head _ | apply List.Mem.tail)); (case hn => first | rfl | (simp; done))) | (refine' wpList_loadCellG hR rfl rfl rfl ?hT ?hm ?hv ?_; (case hT => exact inferInstance); (case hm => first | with_reducible assumption | repeat (first | exact List.Mem.head _ | apply List.Mem.tail)); (case hv => first | rfl | with_reducible assumption)) | (refine' wpList_sliceG (el := 5) hR rfl rfl [.int .u8 97] (fun w => ?zr) ?_; (case zr => go_simp; done); clear hR; intro bt w hR) | (refine' wpList_sliceG (el := 5) hR rfl rfl [.int .u8 98, .int .u8 99] (fun w => ?zr) ?_; (case zr => go_simp; done); clear hR; intro bt w hR) | (refine' wpList_sliceG (el := 5) hR rfl rfl [.int .u8 97, .int .u8 98, .int .u8 99] (fun w => ?zr) ?_; (case zr => go_simp; done); clear hR; intro bt w hR) | (refine' wpList_convRep hR rfl rfl rfl ?_; clear hR; intro w hR) | (go_at_call 19; refine (new_any hR).mono ?_; clear hR; rintro e w ⟨sb, rfl, hR⟩) | (go_at_call 11; refine (write_any _ [] [97] _ _ tail_nil (by decide) (sliceOf_own [97] (List.Mem.head _) rfl rfl byte1 (by decide)) hR.swap').mono ?_; clear hR; rintro e w ⟨rfl, r1, ht1, hR⟩) | (go_at_call 11; refine (write_any _ [97] [98, 99] _ _ ht1 (by decide) (sliceOf_own [98, 99] (List.Mem.head _) rfl rfl byte2 (by decide)) hR.swap').mono ?_; clear hR; rintro e w ⟨rfl, r2, ht2, hR⟩) | (go_at_call 14; refine (of_F [] _ (by decide) sliceOf_nil hR).mono ?_; clear hR; rintro e w ⟨rfl, hR⟩) | (go_at_call 14; refine (of_F [97, 98, 99] _ (by decide) (sliceOf_own [97, 98, 99] (List.Mem.head _) rfl rfl byte3 (by decide)) hR).mono ?_; clear hR; rintro e w ⟨rfl, hR⟩) | (go_at_call 26; refine (text_any _ (hashF_lt _) _).mono ?_; rintro e w ⟨rfl, hb⟩; replace hR := hR.call hb; clear hb) | (go_at_call 12; refine (hash_F _ [97, 98, 99] _ ht2 (by decide) (hR.drop1)).mono ?_; clear hR; rintro e w ⟨rfl, hR⟩))
  go_ret
  exact ⟨rfl, hR.below⟩
end Go.Proofs.Ytllmpiamcghboaa
