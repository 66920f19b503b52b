/- The walk of ShasCut. -/
import Derived.Test.YtllmpiamcghboaaShaAlive
set_option linter.unusedSimpArgs false
set_option linter.unusedVariables false
namespace Go.Proofs.Ytllmpiamcghboaa
open Go.RowKit
attribute [local irreducible] Calls

theorem Rep.bare {B0 : Nat} {w0 w : World} {L : List (Nat × Obj)} (h : Rep B0 w0 L w) : Rep B0 w0 [] w := h.weaken (List.nil_sublist _)
theorem SliceOf.any {B0 : Nat} {w0 : World} {L : List (Nat × Obj)} {v : Value} {xs : List Nat} (h : SliceOf B0 w0 [] v xs) : SliceOf B0 w0 L v xs := h.mono fun w hw => hw.bare
/-- A slice's beginning. -/
theorem cut_low {B0 : Nat} {w0 : World} {v : Value} {xs : List Nat} (h : SliceOf B0 w0 [] v xs) {k : Nat} (hk : k ≤ xs.length) : ∃ v1, (∀ w, (Instr.sliceAt 24 v none (some (.int .i64 (k : Int))) none).run Try.prog w = .ok v1 w) ∧ SliceOf B0 w0 [] v1 (xs.take k) := by
  obtain ⟨a, cap, rfl, h1, h2, h3, h4⟩ := h
  unfold maxLen at h2
  have g0 : 0 ≤ (k : Int) := by omega
  have g1 : (k : Int) ≤ (cap : Int) := by omega
  have hb : ∀ j, (xs.take k).getD j 0 < 256 := fun j => by
    by_cases hj : j < k
    · rw [getD_take_of_lt _ _ _ hj]; exact h3 j
    · rw [List.getD_eq_getElem?_getD, List.getElem?_eq_none (by simp; omega)]; exact (by decide : 0 < 256)
  have hl : (xs.take k).length = k := by simp; omega
  by_cases hx : xs = []
  · subst hx
    obtain rfl : k = 0 := by simpa using hk
    refine ⟨.slice (if cap = 0 then a else a.map (·.add 0)) 0 cap, fun w => ?_, ⟨_, cap, rfl, by simp, by unfold maxLen; omega, hb, fun h => absurd rfl h⟩⟩
    go_simp
  · obtain ⟨bb, off, rfl, h5⟩ := h4 hx
    have hc : ¬ cap = 0 := fun h => hx (List.length_eq_zero_iff.1 (by omega))
    refine ⟨.slice (some ⟨bb, off, none⟩) k cap, fun w => ?_, ⟨_, cap, by rw [hl], by omega, by unfold maxLen; omega, hb, fun _ => ⟨bb, off, rfl, fun w hw j hj => ?_⟩⟩⟩
    · go_simp
    · rw [h5 w hw j (by omega), getD_take_of_lt _ _ _ (by omega)]
/-- A slice's end. -/
theorem cut_high {B0 : Nat} {w0 : World} {v : Value} {xs : List Nat} (h : SliceOf B0 w0 [] v xs) {k : Nat} (hk : k ≤ xs.length) : ∃ v1, (∀ w, (Instr.sliceAt 24 v (some (.int .i64 (k : Int))) none none).run Try.prog w = .ok v1 w) ∧ SliceOf B0 w0 [] v1 (xs.drop k) := by
  obtain ⟨a, cap, rfl, h1, h2, h3, h4⟩ := h
  have hb : ∀ j, (xs.drop k).getD j 0 < 256 := fun j => by
    rw [List.getD_eq_getElem?_getD, List.getElem?_drop, ← List.getD_eq_getElem?_getD]; exact h3 _
  have hl : (xs.drop k).length = xs.length - k := by simp
  by_cases hx : xs = []
  · subst hx
    obtain rfl : k = 0 := by simpa using hk
    have h2' := h2
    unfold maxLen at h2
    refine ⟨.slice (if cap = 0 then a else a.map (·.add 0)) 0 cap, fun w => ?_, ⟨_, cap, rfl, by simp, h2', hb, fun h => absurd rfl h⟩⟩
    go_simp
  · obtain ⟨bb, off, rfl, h5⟩ := h4 hx
    refine ⟨_, cut_slice bb off xs.length cap k hk h1 h2, ⟨_, cap - k, by rw [hl], by omega, by omega, hb, fun hd => ?_⟩⟩
    have hlt : k < xs.length := by
      have : (xs.drop k).length ≠ 0 := fun h => hd (List.length_eq_zero_iff.1 h)
      omega
    refine ⟨bb, off + k, by rw [if_neg (by omega)], fun w hw j hj => ?_⟩
    rw [Nat.add_assoc, h5 w hw (k + j) (by omega), List.getD_eq_getElem?_getD, List.getD_eq_getElem?_getD, List.getElem?_drop]

section
variable {P : Program} {ops : Array Oper} {B0 : Nat} {w0 : World} {L : List (Nat × Obj)} {ts : List Nat} {r acc : List Oper} {o : Oper} {a : Act} {K : List Oper → Act → Prop} {I : (World → Prop) → Prop} {C : World → Prop}
/-- A call that reads the caller's blocks. -/
theorem hd_callR (hw : Region.wanted o (yielded ops a.tmps) = true) {f : FuncId} {xs : List Operand} {us : Array TypeId} (hop : o.op = .call { callee := .value (.func f), args := xs.toArray, argTypes := us }) {vs : List Value} {v : Value} (hx' : evL a xs = some vs)
    (hent : ∀ w, (callFunc f vs.toArray).run P w = .ok (.enter f vs.toArray) w) (hq : ∀ w, Rep B0 w0 L w → Calls P f vs.toArray w fun e w' => e = .returned v ∧ Rep B0 w0 L w')
    {a' : Act} (ha : a.put o.dst v = a') (h : headM P ops I (Rep B0 w0 L) K ts r acc a') : headM P ops I (Rep B0 w0 L) K (0 :: ts) (o :: r) acc a :=
  hd_step hw (fun w hR => by
    have e : (execOp a.eval o).run P w = .ok (.enter f vs.toArray) w := by
      have hx := evL_eval hx'
      unfold execOp
      simp only [hop, resolve, Deferred.ofValue, Act.eval, Sem.run_bind, Sem.run_pure, Result.andThen_ok, hx]
      have := hent w
      simpa [invoke] using this
    rw [e]
    exact (hq w hR).mono fun e' w' ⟨he, hb⟩ => ⟨he, hb⟩) ha h
end
set_option maxRecDepth 100000 in
set_option maxHeartbeats 4000000 in
theorem cut_nat (v : Value) (xs : List Nat) (cut : Nat) (hcut : cut < 65536) (w : World) (hv : SliceOf w.heap.size w [] v xs) : Calls Try.prog 7 #[v, .int .u16 (cut : Int)] w fun e w' => e = .returned (.bool true) ∧ Below w.heap.size w w' := by
  have ca := fun w => alive5 w
  have hR := Rep.init w
  obtain ⟨a, cap, hva, h1, h2, h3, h4⟩ := hv
  by_cases hbig : xs.length ≤ 20000
  · have g0 : ¬ (20000 : Int) < (xs.length : Int) := by omega
    have g0' : decide ((20000 : Int) < (xs.length : Int)) = false := decide_eq_false g0
    obtain ⟨k, hk⟩ : ∃ k, cut % (xs.length + 1) = k := ⟨_, rfl⟩
    have hkl : k ≤ xs.length := by have := Nat.mod_lt cut (show 0 < xs.length + 1 by omega); omega
    have hv : SliceOf w.heap.size w [] v xs := ⟨a, cap, hva, h1, h2, h3, h4⟩
    obtain ⟨v1, r1, S1⟩ := cut_low hv hkl
    obtain ⟨v2, r2, S2⟩ := cut_high hv hkl
    obtain ⟨M1, hM1⟩ : ∃ M, xs.take k = M := ⟨_, rfl⟩
    have lM1 : M1.length ≤ 20000 := by rw [← hM1]; simp; omega
    have lM2 : (xs.drop k).length ≤ 20000 := by simp; omega
    rw [hM1] at S1
    have cw1 : ∀ (L : List (Nat × Obj)) (w' : World) sb, Rep w.heap.size w ((sb, sumC [] fun _ => 0) :: L) w' → Calls Try.prog 11 #[.pointer (some ⟨sb, 0, none⟩), v1] w' fun e w'' => e = .returned (.int .i64 0) ∧ ∃ r', TailOk M1 r' ∧ Rep w.heap.size w ((sb, sumC M1 r') :: L) w'' := fun L w' sb hw => by
      have := write_any sb [] M1 (fun _ => 0) v1 tail_nil (by simp; omega) S1.any hw
      rw [List.nil_append] at this
      exact this
    have cw2 : ∀ (L : List (Nat × Obj)) (w' : World) sb r, TailOk M1 r → Rep w.heap.size w ((sb, sumC M1 r) :: L) w' → Calls Try.prog 11 #[.pointer (some ⟨sb, 0, none⟩), .slice none 0 0] w' fun e w'' => e = .returned (.int .i64 0) ∧ ∃ r', TailOk M1 r' ∧ Rep w.heap.size w ((sb, sumC M1 r') :: L) w'' := fun L w' sb r hr hw => by
      have := write_any sb M1 [] r (.slice none 0 0) hr (by simp; omega) sliceOf_nil hw
      rw [List.append_nil] at this
      exact this
    have cw3 : ∀ (L : List (Nat × Obj)) (w' : World) sb r, TailOk M1 r → Rep w.heap.size w ((sb, sumC M1 r) :: L) w' → Calls Try.prog 11 #[.pointer (some ⟨sb, 0, none⟩), v2] w' fun e w'' => e = .returned (.int .i64 0) ∧ ∃ r', TailOk xs r' ∧ Rep w.heap.size w ((sb, sumC xs r') :: L) w'' := fun L w' sb r hr hw => by
      have := write_any sb M1 (xs.drop k) r v2 hr (by omega) S2.any hw
      have e : M1 ++ xs.drop k = xs := by rw [← hM1]; exact List.take_append_drop k xs
      rw [e] at this
      exact this
    have ch : ∀ (m : List Nat) (_ : m.length ≤ 20000) (L : List (Nat × Obj)) (w' : World) sb r, TailOk m r → Rep w.heap.size w ((sb, sumC m r) :: L) w' → Calls Try.prog 12 #[.pointer (some ⟨sb, 0, none⟩)] w' fun e w'' => e = .returned (.agg (u8s 32 (hashF m)).toArray) ∧ Rep w.heap.size w ((sb, sumC m r) :: L) w'' := fun m hm L w' sb r hr hw => hash_F sb m r hr (by omega) hw
    have co : ∀ (m : List Nat) (u : Value) (_ : m.length ≤ 20000) (hS : SliceOf w.heap.size w [] u m) (L : List (Nat × Obj)) (w' : World), Rep w.heap.size w L w' → Calls Try.prog 14 #[u] w' fun e w'' => e = .returned (.agg (u8s 32 (hashF m)).toArray) ∧ Rep w.heap.size w L w'' := fun m u hm hS L w' hw => of_F m u (by omega) hS.any hw
    have ch0 := ch [] (by simp)
    have ch1 := ch M1 lM1
    have ch2 := ch xs hbig
    have co0 := co [] _ (by simp) sliceOf_nil
    have co1 := co M1 v1 lM1 S1
    have co2 := co xs v hbig hv
    clear ch co
    have o0 := u8s_one 32 (hashF [])
    have o1 := u8s_one 32 (hashF M1)
    have q0 := eqH_self (hashF [])
    have q1 := eqH_self (hashF M1)
    have q2 := eqH_self (hashF xs)
    have cn := fun (L : List (Nat × Obj)) (w' : World) (hw : Rep w.heap.size w L w') => new_any hw
    have e1 : IntKind.i64.wrap (cut : Int) = (cut : Int) := by rw [IntKind.wrap_i64]; omega
    obtain ⟨n1, hn1⟩ : ∃ x, xs.length + 1 = x := ⟨_, rfl⟩
    rw [hn1] at hk
    have e2 : IntKind.i64.wrap ((xs.length : Int) + 1) = (n1 : Int) := by rw [IntKind.wrap_i64]; omega
    have e3 : (cut : Int) % (n1 : Int) = (k : Int) := by rw [← hk]; rfl
    have e4 : (cut : Int).tmod (n1 : Int) = (k : Int) := by rw [Int.tmod_eq_emod_of_nonneg (by omega)]; exact e3
    have e5 : ((n1 : Int) == 0) = false := by simp; omega
    have e6 : ¬ (n1 : Int) = 0 := by omega
    generalize hf0 : hashF [] = f0 at *
    generalize hf1 : hashF M1 = f1 at *
    generalize hf2 : hashF xs = f2 at *
    subst hva
    replace hk := Held.mk hk
    replace hn1 := Held.mk hn1
    replace hM1 := Held.mk hM1
    replace hf0 := Held.mk hf0
    replace hf1 := Held.mk hf1
    replace hf2 := Held.mk hf2
    replace S1 := Held.mk S1
    replace S2 := Held.mk S2
    replace h3 := Held.mk h3
    replace h4 := Held.mk h4
    replace hv := Held.mk hv
    go_enter Try.func7, Try.ntmps7
    go_wp2_with (first | (refine' wpList_boxRep hR rfl rfl rfl ?_; clear hR; intro blk w hR) | (refine' wpList_allocRep hR rfl rfl ?hT ?_; (case hT => exact inferInstance); clear hR; intro blk w hR) | (refine' wpList_loadAll hR rfl rfl rfl ?hT ?hm ?hn ?_; (case hT => exact inferInstance); (case hm => first | with_reducible assumption | repeat (first | exact List.Mem.head _ | apply List.Mem.tail)); (case hn => first | rfl | (simp; done))) | (refine' wpList_loadRow hR rfl rfl rfl ?hT ?hm ?hv ?hn ?_; (case hT => exact inferInstance); (case hm => first | with_reducible assumption | repeat (first | exact List.Mem.head _ | apply List.Mem.tail)); (case hv => first | with_reducible assumption | (simp only [List.drop_succ_cons, List.drop_zero, List.take_succ_cons, List.take_zero]; first | done | rfl)); (case hn => first | rfl | (simp; done))) | (refine' wpList_loadCell hR rfl rfl rfl ?hT ?hm ?hv ?_; (case hT => exact inferInstance); (case hm => first | with_reducible assumption | repeat (first | exact List.Mem.head _ | apply List.Mem.tail)); (case hv => first | rfl | with_reducible assumption)) | (refine' wpList_storeAll hR rfl rfl rfl ?hT rfl ?hs ?zone ?zvn ?hn ?_; (case hT => exact inferInstance); (case hs => repeat (first | exact SetAt.head | apply SetAt.tail)); (case zone => first | rfl | with_reducible assumption); (case zvn => first | rfl | (simp; done)); (case hn => first | rfl | (simp; done)); clear hR; intro w hR) | (refine' wpList_storeCell hR rfl rfl rfl ?hT rfl rfl ?hs ?hn ?hl ?_; (case hT => exact inferInstance); (case hs => repeat (first | exact SetAt.head | apply SetAt.tail)); (case hn => first | exact of_decide_eq_true rfl | (show _ < 4; with_reducible assumption) | (simp; done) | (simp; omega)); (case hl => first | with_reducible assumption | (simp only [List.set_cons_zero, List.set_cons_succ]; done) | (simp only [List.set_cons_zero, List.set_cons_succ]; rfl) | (simp only [nl, List.set_cons_zero, List.set_cons_succ]; done) | (simp only [nl, List.set_cons_zero, List.set_cons_succ]; rfl) | rfl); clear hR; intro w hR) | (refine' wpList_loadAllG hR rfl rfl rfl ?hT ?hm ?hn ?_; (case hT => exact inferInstance); (case hm => first | with_reducible assumption | repeat (first | exact List.Mem.head _ | apply List.Mem.tail)); (case hn => first | rfl | (simp; done))) | (refine' wpList_loadCellG hR rfl rfl rfl ?hT ?hm ?hv ?_; (case hT => exact inferInstance); (case hm => first | with_reducible assumption | repeat (first | exact List.Mem.head _ | apply List.Mem.tail)); (case hv => first | rfl | with_reducible assumption)) | (go_at_call 20; refine (ca _).mono ?_; rintro e w ⟨rfl, hb⟩; replace hR := hR.call hb; clear hb) | (go_at_call 19; refine (cn _ _ hR).mono ?_; clear hR; rintro e w ⟨sb, rfl, hR⟩) | (go_at_call 12; (first | refine (ch0 _ _ _ _ tail_nil hR).mono ?_ | refine (ch1 _ _ _ _ ht1 hR).mono ?_ | refine (ch1 _ _ _ _ ht1 hR.swap').mono ?_); clear hR; rintro e w ⟨rfl, hR⟩) | (go_at_call 11; refine (cw1 _ _ _ hR.swap').mono ?_; clear hR; rintro e w ⟨rfl, r1', ht1, hR⟩) | (go_at_call 11; refine (cw2 _ _ _ _ ht1 hR.swap').mono ?_; clear hR; rintro e w ⟨rfl, r2', ht2, hR⟩) | (go_at_call 11; refine (cw3 _ _ _ _ ht2 hR).mono ?_; clear hR; rintro e w ⟨rfl, r3', ht3, hR⟩))
    clear cw1 cw2 cw3 ch0 ch1 cn ht1 ht2
    refine wp_region_ord hR [0, 0, 0, 0, 0, 0, 0, 0, 0, 0, 0, 0, 0, 0, 0, 0, 0, 0, 0, 0, 0, 0, 0, 2] [] mixed (by kernel_rfl) rfl rfl (fun K hK => ?_)
    clear hR
    repeat (first | (refine hd_tail ?_) | (refine' hd_move (by decide) rfl (.inl rfl) rfl ?ha ?_; (case ha => simp only [Act.put, List.setIfInBounds_toArray, List.set_cons_zero, List.set_cons_succ]; try rfl)) | (refine' hd_move (by decide) rfl (.inr rfl) rfl ?ha ?_; (case ha => simp only [Act.put, List.setIfInBounds_toArray, List.set_cons_zero, List.set_cons_succ]; try rfl)) | (refine' hd_loadAll rfl rfl rfl ?hT ?hm ?hn ?ha ?_; (case hT => exact inferInstance); (case hm => first | with_reducible assumption | repeat (first | exact List.Mem.head _ | apply List.Mem.tail)); (case hn => first | rfl | (simp; done)); (case ha => simp only [Act.put, List.setIfInBounds_toArray, List.set_cons_zero, List.set_cons_succ]; try rfl)) | (refine' hd_loadRow rfl rfl rfl ?hT ?hm ?hv ?hn ?ha ?_; (case hT => exact inferInstance); (case hm => first | with_reducible assumption | repeat (first | exact List.Mem.head _ | apply List.Mem.tail)); (case hv => first | with_reducible assumption | (simp only [List.drop_succ_cons, List.drop_zero, List.take_succ_cons, List.take_zero]; first | done | rfl)); (case hn => first | rfl | (simp; done)); (case ha => simp only [Act.put, List.setIfInBounds_toArray, List.set_cons_zero, List.set_cons_succ]; try rfl)) | (refine' hd_loadCell rfl rfl rfl ?hT ?hm ?hv ?ha ?_; (case hT => exact inferInstance); (case hm => first | with_reducible assumption | repeat (first | exact List.Mem.head _ | apply List.Mem.tail)); (case hv => first | rfl | with_reducible assumption); (case ha => simp only [Act.put, List.setIfInBounds_toArray, List.set_cons_zero, List.set_cons_succ]; try rfl)) | (refine' hd_keepRow rfl rfl rfl ?hT ?hm ?hv ?hn ?ha ?_; (case hT => exact inferInstance); (case hm => first | with_reducible assumption | repeat (first | exact List.Mem.head _ | apply List.Mem.tail)); (case hv => first | with_reducible assumption | (simp only [List.drop_succ_cons, List.drop_zero, List.take_succ_cons, List.take_zero]; first | done | rfl)); (case hn => first | rfl | (simp; done)); (case ha => simp only [Act.put, List.setIfInBounds_toArray, List.set_cons_zero, List.set_cons_succ]; try rfl)) | (refine' hd_keepCell rfl rfl rfl ?hT ?hm ?hv ?ha ?_; (case hT => exact inferInstance); (case hm => first | with_reducible assumption | repeat (first | exact List.Mem.head _ | apply List.Mem.tail)); (case hv => first | rfl | with_reducible assumption); (case ha => simp only [Act.put, List.setIfInBounds_toArray, List.set_cons_zero, List.set_cons_succ]; try rfl)) | (refine' hd_indexAddr (by decide) rfl rfl rfl rfl (fun w => ?hq) ?ha ?_; (case hq => go_simp; first | done | rfl); (case ha => simp only [Act.put, List.setIfInBounds_toArray, List.set_cons_zero, List.set_cons_succ]; try rfl)) | (refine' hd_binOp (by decide) rfl rfl rfl rfl (fun w => ?hq) ?ha ?_; (case hq => go_simp; first | done | rfl); (case ha => simp only [Act.put, List.setIfInBounds_toArray, List.set_cons_zero, List.set_cons_succ]; try rfl)) | (refine' hd_extract (by decide) rfl rfl rfl (fun w => ?hq) ?ha ?_; (case hq => go_simp; first | done | rfl); (case ha => simp only [Act.put, List.setIfInBounds_toArray, List.set_cons_zero, List.set_cons_succ]; try rfl)) | (refine' hd_nilCheck (by decide) rfl rfl rfl ?ha ?_; (case ha => simp only [Act.put, List.setIfInBounds_toArray, List.set_cons_zero, List.set_cons_succ]; try rfl)) | (refine' hd_fieldAddr (by decide) rfl rfl rfl (fun w => ?hq) ?ha ?_; (case hq => go_simp; first | done | rfl); (case ha => simp only [Act.put, List.setIfInBounds_toArray, List.set_cons_zero, List.set_cons_succ]; try rfl)) | (refine' hd_convert (by decide) rfl rfl rfl (fun w => ?hq) ?ha ?_; (case hq => go_simp; first | done | rfl); (case ha => simp only [Act.put, List.setIfInBounds_toArray, List.set_cons_zero, List.set_cons_succ]; try rfl)) | (refine' hd_index (by decide) rfl rfl rfl rfl (fun w => ?hq) ?ha ?_; (case hq => go_simp; first | done | rfl); (case ha => simp only [Act.put, List.setIfInBounds_toArray, List.set_cons_zero, List.set_cons_succ]; try rfl)) | (refine' hd_pick (by decide) rfl rfl rfl rfl ?ha ?_; (case ha => simp only [Act.put, List.setIfInBounds_toArray, List.set_cons_zero, List.set_cons_succ]; try rfl)) | (refine' hd_slice (by decide) rfl rfl rfl rfl rfl rfl (fun w => ?hq) ?ha ?_; (case hq => go_simp; first | done | rfl); (case ha => simp only [Act.put, List.setIfInBounds_toArray, List.set_cons_zero, List.set_cons_succ]; try rfl)) | (refine' hd_build (by decide) rfl rfl (fun w => ?hq) ?ha ?_; (case hq => go_simp; first | done | rfl); (case ha => simp only [Act.put, List.setIfInBounds_toArray, List.set_cons_zero, List.set_cons_succ]; try rfl)) | (refine' hd_arrayAt (by decide) rfl rfl rfl (fun w => ?hq) ?ha ?_; (case hq => go_simp; first | done | rfl); (case ha => simp only [Act.put, List.setIfInBounds_toArray, List.set_cons_zero, List.set_cons_succ]; try rfl)) | (refine' hd_field (by decide) rfl rfl rfl (fun w => ?hq) ?ha ?_; (case hq => go_simp; first | done | rfl); (case ha => simp only [Act.put, List.setIfInBounds_toArray, List.set_cons_zero, List.set_cons_succ]; try rfl)) | (refine' hd_skip (by decide) rfl ?ha ?_; (case ha => simp only [Act.put, List.setIfInBounds_toArray, List.set_cons_zero, List.set_cons_succ]; try rfl)) | (refine' hd_callR rfl rfl rfl (enters Try.func14 (by kernel_rfl) (by kernel_rfl) _) (fun w hw => co0 _ w hw) ?ha ?_; (case ha => simp only [Act.put, List.setIfInBounds_toArray, List.set_cons_zero, List.set_cons_succ]; try rfl)) | (refine' hd_callR rfl rfl rfl (enters Try.func14 (by kernel_rfl) (by kernel_rfl) _) (fun w hw => co1 _ w hw) ?ha ?_; (case ha => simp only [Act.put, List.setIfInBounds_toArray, List.set_cons_zero, List.set_cons_succ]; try rfl)) | (refine' hd_callR rfl rfl rfl (enters Try.func14 (by kernel_rfl) (by kernel_rfl) _) (fun w hw => co2 _ w hw) ?ha ?_; (case ha => simp only [Act.put, List.setIfInBounds_toArray, List.set_cons_zero, List.set_cons_succ]; try rfl)) | (refine' hd_callR rfl rfl rfl (enters Try.func12 (by kernel_rfl) (by kernel_rfl) _) (fun w hw => ch2 _ w _ _ ht3 hw) ?ha ?_; (case ha => simp only [Act.put, List.setIfInBounds_toArray, List.set_cons_zero, List.set_cons_succ]; try rfl)))
    refine hd_nil (hK _ _ ?_)
    clear hK K
    refine tl_gen (fun Q hQ => ?_)
    try simp only [List.nil_append, List.cons_append]
    repeat (first | (refine' tl_move rfl (.inl rfl) rfl ?hk ?ha ?_; (case hk => intro p hp; first | exact absurd hp List.not_mem_nil | (obtain rfl := List.mem_singleton.1 hp; repeat (first | exact List.Mem.head _ | apply List.Mem.tail))); (case ha => simp only [Act.put, List.setIfInBounds_toArray, List.set_cons_zero, List.set_cons_succ]; try rfl)) | (refine' tl_move rfl (.inr rfl) rfl ?hk ?ha ?_; (case hk => intro p hp; first | exact absurd hp List.not_mem_nil | (obtain rfl := List.mem_singleton.1 hp; repeat (first | exact List.Mem.head _ | apply List.Mem.tail))); (case ha => simp only [Act.put, List.setIfInBounds_toArray, List.set_cons_zero, List.set_cons_succ]; try rfl)) | (refine' tl_storeAll rfl rfl rfl ?hT rfl ?hs rfl rfl ?hn ?hk ?ha ?_; (case hT => exact inferInstance); (case hs => repeat (first | exact SetAt.head | apply SetAt.tail)); (case hn => first | rfl | (simp; done)); (case hk => intro p hp; first | exact absurd hp List.not_mem_nil | (obtain rfl := List.mem_singleton.1 hp; repeat (first | exact List.Mem.head _ | apply List.Mem.tail))); (case ha => simp only [Act.put, List.setIfInBounds_toArray, List.set_cons_zero, List.set_cons_succ]; try rfl)) | (refine' tl_storeCell rfl rfl rfl ?hT rfl rfl ?hs ?hn ?hl ?hk ?ha ?_; (case hT => exact inferInstance); (case hs => repeat (first | exact SetAt.head | apply SetAt.tail)); (case hn => first | exact of_decide_eq_true rfl | (show _ < 4; with_reducible assumption) | (simp; done) | (simp; omega)); (case hl => first | with_reducible assumption | (simp only [List.set_cons_zero, List.set_cons_succ]; done) | (simp only [List.set_cons_zero, List.set_cons_succ]; rfl) | (simp only [nl, List.set_cons_zero, List.set_cons_succ]; done) | (simp only [nl, List.set_cons_zero, List.set_cons_succ]; rfl) | rfl); (case hk => intro p hp; first | exact absurd hp List.not_mem_nil | (obtain rfl := List.mem_singleton.1 hp; repeat (first | exact List.Mem.head _ | apply List.Mem.tail))); (case ha => simp only [Act.put, List.setIfInBounds_toArray, List.set_cons_zero, List.set_cons_succ]; try rfl)) | (refine' tl_storeRow rfl rfl rfl ?hT rfl rfl ?hvn ?hs ?hn ?hl ?hk ?ha ?_; (case hT => exact inferInstance); (case hvn => first | rfl | (simp; done)); (case hs => repeat (first | exact SetAt.head | apply SetAt.tail)); (case hn => first | exact of_decide_eq_true rfl | (show _ < 4; with_reducible assumption) | (simp; done) | (simp; omega)); (case hl => first | with_reducible assumption | (simp only [List.set_cons_zero, List.set_cons_succ]; done) | (simp only [List.set_cons_zero, List.set_cons_succ]; rfl) | (simp only [nl, List.set_cons_zero, List.set_cons_succ]; done) | (simp only [nl, List.set_cons_zero, List.set_cons_succ]; rfl) | rfl); (case hk => intro p hp; first | exact absurd hp List.not_mem_nil | (obtain rfl := List.mem_singleton.1 hp; repeat (first | exact List.Mem.head _ | apply List.Mem.tail))); (case ha => simp only [Act.put, List.setIfInBounds_toArray, List.set_cons_zero, List.set_cons_succ]; try rfl)) | (refine' tl_pure rfl (fun w => ?hq) ?hk ?ha ?_; (case hq => go_simp; first | done | rfl); (case hk => intro p hp; first | exact absurd hp List.not_mem_nil | (obtain rfl := List.mem_singleton.1 hp; repeat (first | exact List.Mem.head _ | apply List.Mem.tail))); (case ha => simp only [Act.put, List.setIfInBounds_toArray, List.set_cons_zero, List.set_cons_succ]; try rfl)))
    refine tl_nil (fun w hR => hQ _ _ ?_)
    clear hQ Q
    go_wp2_with (first | (refine' wpList_boxRep hR rfl rfl rfl ?_; clear hR; intro blk w hR) | (refine' wpList_allocRep hR rfl rfl ?hT ?_; (case hT => exact inferInstance); clear hR; intro blk w hR) | (refine' wpList_loadAll hR rfl rfl rfl ?hT ?hm ?hn ?_; (case hT => exact inferInstance); (case hm => first | with_reducible assumption | repeat (first | exact List.Mem.head _ | apply List.Mem.tail)); (case hn => first | rfl | (simp; done))) | (refine' wpList_loadRow hR rfl rfl rfl ?hT ?hm ?hv ?hn ?_; (case hT => exact inferInstance); (case hm => first | with_reducible assumption | repeat (first | exact List.Mem.head _ | apply List.Mem.tail)); (case hv => first | with_reducible assumption | (simp only [List.drop_succ_cons, List.drop_zero, List.take_succ_cons, List.take_zero]; first | done | rfl)); (case hn => first | rfl | (simp; done))) | (refine' wpList_loadCell hR rfl rfl rfl ?hT ?hm ?hv ?_; (case hT => exact inferInstance); (case hm => first | with_reducible assumption | repeat (first | exact List.Mem.head _ | apply List.Mem.tail)); (case hv => first | rfl | with_reducible assumption)) | (refine' wpList_storeAll hR rfl rfl rfl ?hT rfl ?hs ?zone ?zvn ?hn ?_; (case hT => exact inferInstance); (case hs => repeat (first | exact SetAt.head | apply SetAt.tail)); (case zone => first | rfl | with_reducible assumption); (case zvn => first | rfl | (simp; done)); (case hn => first | rfl | (simp; done)); clear hR; intro w hR) | (refine' wpList_storeCell hR rfl rfl rfl ?hT rfl rfl ?hs ?hn ?hl ?_; (case hT => exact inferInstance); (case hs => repeat (first | exact SetAt.head | apply SetAt.tail)); (case hn => first | exact of_decide_eq_true rfl | (show _ < 4; with_reducible assumption) | (simp; done) | (simp; omega)); (case hl => first | with_reducible assumption | (simp only [List.set_cons_zero, List.set_cons_succ]; done) | (simp only [List.set_cons_zero, List.set_cons_succ]; rfl) | (simp only [nl, List.set_cons_zero, List.set_cons_succ]; done) | (simp only [nl, List.set_cons_zero, List.set_cons_succ]; rfl) | rfl); clear hR; intro w hR) | fail)
    go_ret
    exact ⟨rfl, hR.below⟩
  · have g0 : (20000 : Int) < (xs.length : Int) := by omega
    subst hva
    clear h3 h4
    go_enter Try.func7, Try.ntmps7
    go_wp2_with (first | (refine' wpList_boxRep hR rfl rfl rfl ?_; clear hR; intro blk w hR) | (refine' wpList_allocRep hR rfl rfl ?hT ?_; (case hT => exact inferInstance); clear hR; intro blk w hR) | (refine' wpList_loadAll hR rfl rfl rfl ?hT ?hm ?hn ?_; (case hT => exact inferInstance); (case hm => first | with_reducible assumption | repeat (first | exact List.Mem.head _ | apply List.Mem.tail)); (case hn => first | rfl | (simp; done))) | (refine' wpList_loadRow hR rfl rfl rfl ?hT ?hm ?hv ?hn ?_; (case hT => exact inferInstance); (case hm => first | with_reducible assumption | repeat (first | exact List.Mem.head _ | apply List.Mem.tail)); (case hv => first | with_reducible assumption | (simp only [List.drop_succ_cons, List.drop_zero, List.take_succ_cons, List.take_zero]; first | done | rfl)); (case hn => first | rfl | (simp; done))) | (refine' wpList_loadCell hR rfl rfl rfl ?hT ?hm ?hv ?_; (case hT => exact inferInstance); (case hm => first | with_reducible assumption | repeat (first | exact List.Mem.head _ | apply List.Mem.tail)); (case hv => first | rfl | with_reducible assumption)) | (refine' wpList_storeAll hR rfl rfl rfl ?hT rfl ?hs ?zone ?zvn ?hn ?_; (case hT => exact inferInstance); (case hs => repeat (first | exact SetAt.head | apply SetAt.tail)); (case zone => first | rfl | with_reducible assumption); (case zvn => first | rfl | (simp; done)); (case hn => first | rfl | (simp; done)); clear hR; intro w hR) | (refine' wpList_storeCell hR rfl rfl rfl ?hT rfl rfl ?hs ?hn ?hl ?_; (case hT => exact inferInstance); (case hs => repeat (first | exact SetAt.head | apply SetAt.tail)); (case hn => first | exact of_decide_eq_true rfl | (show _ < 4; with_reducible assumption) | (simp; done) | (simp; omega)); (case hl => first | with_reducible assumption | (simp only [List.set_cons_zero, List.set_cons_succ]; done) | (simp only [List.set_cons_zero, List.set_cons_succ]; rfl) | (simp only [nl, List.set_cons_zero, List.set_cons_succ]; done) | (simp only [nl, List.set_cons_zero, List.set_cons_succ]; rfl) | rfl); clear hR; intro w hR) | (refine' wpList_loadAllG hR rfl rfl rfl ?hT ?hm ?hn ?_; (case hT => exact inferInstance); (case hm => first | with_reducible assumption | repeat (first | exact List.Mem.head _ | apply List.Mem.tail)); (case hn => first | rfl | (simp; done))) | (refine' wpList_loadCellG hR rfl rfl rfl ?hT ?hm ?hv ?_; (case hT => exact inferInstance); (case hm => first | with_reducible assumption | repeat (first | exact List.Mem.head _ | apply List.Mem.tail)); (case hv => first | rfl | with_reducible assumption)) | (go_at_call 20; refine (ca _).mono ?_; rintro e w ⟨rfl, hb⟩; replace hR := hR.call hb; clear hb))
    go_ret
    exact ⟨rfl, hR.below⟩
theorem cut_walk (w : World) (v : Value) (xs : List Nat) (n : Int) (hv : SliceOf w.heap.size w [] v xs) (hn : (Lit.int .u16 n).wf = true) : Calls Try.prog 7 #[v, .int .u16 n] w fun e w' => e = .returned (.bool true) ∧ Below w.heap.size w w' := by
  have h : 0 ≤ n ∧ n < 65536 := by
    simp [Lit.wf, IntKind.min, IntKind.max, IntKind.signed, IntKind.bits] at hn
    omega
  obtain ⟨k, rfl⟩ := Int.eq_ofNat_of_zero_le h.1
  exact cut_nat v xs k (by omega) w hv
end Go.Proofs.Ytllmpiamcghboaa
