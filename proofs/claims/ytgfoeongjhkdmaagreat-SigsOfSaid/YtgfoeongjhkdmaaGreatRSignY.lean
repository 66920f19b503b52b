/- The contract of sigs.Sign where it signs. -/
import Derived.Test.YtgfoeongjhkdmaaGreatRGE
set_option linter.unusedVariables false
set_option linter.unusedSimpArgs false
namespace Go.Proofs.YtgfoeongjhkdmaaGreat
open Go.RowKit
attribute [local irreducible] Calls Instr.build Instr.buildSlice
section
variable {P : Program} {ops : Array Oper} {B0 : Nat} {w0 w : World} {L L' : List (Nat × Obj)}
theorem yields_callV {o : Oper} {a : Act} (hg : o.guard = none) {f : FuncId} {x : Operand} {xs : List Operand} {us : Array TypeId} (hop : o.op = .call { callee := .value x, args := xs.toArray, argTypes := us }) {caps : List Value} (hf : ev a x = some (.func (.func f) #[] caps.toArray)) {vs : List Value} {v : Value} (hx' : evL a xs = some vs)
    (hent : ∀ w, (callFunc f (vs ++ caps).toArray).run P w = .ok (.enter f (vs ++ caps).toArray) w) (hq : ∀ w, Rep B0 w0 L w → Calls P f (vs ++ caps).toArray w fun e w' => e = .returned v ∧ Rep B0 w0 L' w') : xBy P ops o v a (Rep B0 w0 L) (Rep B0 w0 L') :=
  .inl ⟨wanted_of hg _, fun w hR => by
    have e : (execOp a.eval o).run P w = .ok (.enter f (vs ++ caps).toArray) w := by
      have hx := xDb hx'
      have hf := xBt hf
      unfold execOp
      simp only [hop, resolve, Deferred.ofValue, hf, Sem.run_bind, Sem.run_pure, Result.andThen_ok, hx]
      have := hent w
      simpa [invoke] using this
    rw [e]
    exact (hq w hR).mono fun e' w' ⟨he, hb⟩ => ⟨he, hb⟩⟩
def Signs (p q g h key : Nat) (H : Nat → Nat) (L : List (Nat × Obj)) (v : Value) (M : List (Nat × Obj)) : Prop := ∃ b3 b4 b5, v = sigCl b3 b4 b5 ∧ M = (b5, .cells (u8s 32 H).toArray 28) :: (b4, .cells (nl key).toArray 24) :: (b3, .cells (gl p q g h).toArray 26) :: L
theorem signs_made {p q g h key : Nat} {H : Nat → Nat} (hR : Rep B0 w0 L w) : Calls Tryz.prog 10 #[grp p q g h, num key, .agg (u8s 32 H).toArray] w fun e w' => ∃ v, e = .returned v ∧ outW B0 w0 (Signs p q g h key H L) v w' :=
  (signs_any p q g h key H hR).mono fun e w' ⟨b3, b4, b5, he, hR'⟩ => ⟨_, he, _, ⟨b3, b4, b5, rfl, rfl⟩, hR'⟩
end
section
variable {p q g h s d : Nat} {H : Nat → Nat}
noncomputable def sigC (p q g s d : Nat) (H : Nat → Nat) : Nat := chalN (powN g s p) (powN g d p) H q
noncomputable def sigS (p q g s d : Nat) (H : Nat → Nat) : Nat := (d + mulN s (sigC p q g s d H) q) % q
set_option maxRecDepth 100000 in
set_option maxHeartbeats 8000000 in
theorem sign_yes (hp : p < B) (hq : q < B) (hg : g < B) (hs : s < B) (hd : d < B) (hH : ∀ i, H i < 256) (hok : signOk p q g s d) (w : World) : Calls Tryz.prog 4 #[grp p q g h, num s, .agg (u8s 32 H).toArray, num d] w fun e' w' =>
    e' = .returned (.tuple #[sigV (sigC p q g s d H) (sigS p q g s d H), .int .i64 0]) ∧ Below w.heap.size w w' := by
  obtain ⟨h1, h2, h3, h4⟩ := hok
  have tg := gl_g p q g h
  have j1 := xDl hs B_pos h2
  have j2 := xDl hd B_pos h3
  have x1 := gexp_lit (q := q) (g := g) (h := h) (p := p) (e := 0) hp hg hs rfl (if_pos h1)
  have x2 := gexp_lit (q := q) (g := g) (h := h) (p := p) (e := 0) hp hg hd rfl (if_pos h1)
  rw [if_pos h1] at x1 x2
  have cx := fun (b0 : Nat) (L : List (Nat × Obj)) (w' : World) (hm : (b0, Obj.cells (nl2 s d).toArray 24) ∈ L) (hR : Rep w.heap.size w L w') => exps_lit (p := p) (g := g) (h := h) (s := true) hq hs hd (decide_eq_true h4) hm hR
  unfold sigS sigC
  obtain ⟨key, hkey⟩ : ∃ k, powN g s p = k := ⟨_, rfl⟩
  obtain ⟨r, hr⟩ : ∃ k, powN g d p = k := ⟨_, rfl⟩
  rw [hkey] at x1 ⊢
  rw [hr] at x2 ⊢
  obtain ⟨c, hc⟩ : ∃ c, chalN key r H q = c := ⟨_, rfl⟩
  have lc : c < q := by rw [← hc]; exact chalN_lt (by have := h4.1; omega) _ _ _
  rw [hc]
  obtain ⟨m, hm⟩ : ∃ m, mulN s c q = m := ⟨_, rfl⟩
  have lm : m < q := by rw [← hm, xCv]; exact Nat.mod_lt _ (by have := h4.1; omega)
  obtain ⟨S, hS⟩ : ∃ S, (d + m) % q = S := ⟨_, rfl⟩
  rw [hm, hS]
  have cm := smul_lit (p := p) (g := g) (h := h) (e := 0) (r := m) hs (by omega : c < B) hq (by rw [if_pos ⟨h4.1, h4.2.1, lc⟩, hm]) (if_pos ⟨h4.1, h4.2.1, lc⟩)
  have ca := sadd_lit (p := p) (g := g) (h := h) (e := 0) (r := S) hd (by omega : m < B) hq (by rw [if_pos ⟨h4.1, h4.2.2, lm⟩, hS]) (if_pos ⟨h4.1, h4.2.2, lm⟩)
  have bs := fun w => build_sig c S w
  have cl := fun (b3 b4 b5 : Nat) (M : List (Nat × Obj)) (m3 : (b3, Obj.cells (gl p q g h).toArray 26) ∈ M) (m4 : (b4, Obj.cells (nl key).toArray 24) ∈ M) (m5 : (b5, Obj.cells (u8s 32 H).toArray 28) ∈ M) (w' : World) (hR : Rep w.heap.size w M w') => sig_closure (r := r) hq hc hH m3 m4 m5 hR
  clear h1 h2 h3 h4 hkey hr lc hm lm hS
  replace hH := Held.mk hH
  have hone := u8s_one 32 H
  have hR := Rep.init w
  obtain ⟨W, hW⟩ : ∃ x, x = w := ⟨_, rfl⟩
  subst hW
  go_enter Tryz.func4, Tryz.ntmps4
  go_wp2_with (first | go_skip | (refine' xAb hR rfl rfl rfl ?_; clear hR; intro blk w hR) | (refine' xAa hR rfl rfl inferInstance ?_; clear hR; intro blk w hR) | (refine' aFq hR rfl rfl rfl inferInstance ?_) | (refine' aGq hR rfl rfl rfl inferInstance ?_) | (refine' aHq hR rfl rfl rfl inferInstance ?_) | (refine' aDq hR rfl rfl rfl inferInstance rfl ?_; clear hR; intro w hR) | (refine' aEq hR rfl rfl rfl inferInstance rfl rfl ?_; clear hR; intro w hR) | (refine' xAy hR rfl rfl rfl inferInstance ?hm ?hn ?_; (case hm => first | with_reducible assumption | repeat (first | exact .head _ | with_reducible assumption | apply mC)); (case hn => first | rfl | simp)) | (refine' xAt hR rfl rfl rfl inferInstance ?hm ?hv ?_; (case hm => first | with_reducible assumption | repeat (first | exact .head _ | with_reducible assumption | apply mC)); (case hv => first | rfl | with_reducible assumption)) | (refine' xBh hR rfl rfl rfl inferInstance ?hm ?hv ?hn ?_; (case hm => first | with_reducible assumption | repeat (first | exact .head _ | with_reducible assumption | apply mC)); (case hv => first | with_reducible assumption | (simp only [kC, kD, kE, kF]; try rfl)); (case hn => first | rfl | simp)) | (go_at_call 8; refine (x1 _).mono ?_; rintro e w ⟨rfl, hb⟩; replace hR := hR.call hb; clear hb) | (go_at_call 8; refine (x2 _).mono ?_; rintro e w ⟨rfl, hb⟩; replace hR := hR.call hb; clear hb) | (refine' wpList_twoG hR rfl rfl rfl rfl (build_nums2 _ _) ?_; clear hR; intro bt w hR) | (go_at_call 9; refine (cx _ _ _ (.head _) hR).mono ?_; clear hR; rintro e w ⟨rfl, hR⟩))
  rename_i bg u1 bsc u2 bh u3 bd u4 bv u5 bn u6 u7 u8 bk u9 u10 u11 u12 u13 u14 K0 kz
  obtain ⟨br, hbr⟩ : ∃ x, x = blk := ⟨_, rfl⟩
  subst hbr
  refine wp_region_F hR 8 xCt rfl ?_
  clear hR
  refine fHeads [(bg, Obj.cells (gl p q g h).toArray 26), (bh, Obj.cells (u8s 32 H).toArray 28), (bk, Obj.cells (nl key).toArray 24), (br, Obj.cells (nl r).toArray 24)] [1, 1, 1, 2, 1, 2, 2, 2] 4 rfl (by repeat (first | exact xBu | refine xBn (by repeat (first | exact .head _ | with_reducible assumption | apply mC)) ?_)) (by repeat (first | exact xBu | refine xBn (by repeat (first | exact .head _ | with_reducible assumption | apply mC)) ?_)) rfl (by decide +kernel) (fun K hK => ?_)
  repeat ((first | (refine' hd_keepAll rfl rfl rfl inferInstance ?hm ?hn ?ha ?_; (case hm => first | with_reducible assumption | repeat (first | exact .head _ | apply mC)); (case hn => first | rfl | simp)) | (refine xBj ?_) | (refine' xAs (by decide) rfl (.inl rfl) rfl ?ha ?_) | (refine' xAs (by decide) rfl (.inr rfl) rfl ?ha ?_) | (refine' xAr rfl rfl rfl inferInstance ?hm ?hn ?ha ?_; (case hm => first | with_reducible assumption | repeat (first | exact .head _ | with_reducible assumption | apply mC)); (case hn => first | rfl | simp)) | (refine' xAm rfl rfl rfl inferInstance ?hm ?hv ?hn ?ha ?_; (case hm => first | with_reducible assumption | repeat (first | exact .head _ | with_reducible assumption | apply mC)); (case hv => first | with_reducible assumption | (simp only [kC, kD, kE, kF]; try rfl)); (case hn => first | rfl | simp)) | (refine' xAi rfl rfl rfl inferInstance ?hm ?hv ?ha ?_; (case hm => first | with_reducible assumption | repeat (first | exact .head _ | with_reducible assumption | apply mC)); (case hv => first | rfl | with_reducible assumption)) | (refine' xAn rfl rfl rfl inferInstance ?hm ?hv ?hn ?ha ?_; (case hm => first | with_reducible assumption | repeat (first | exact .head _ | with_reducible assumption | apply mC)); (case hv => first | with_reducible assumption | (simp only [kC, kD, kE, kF]; try rfl)); (case hn => first | rfl | simp)) | (refine' xAj rfl rfl rfl inferInstance ?hm ?hv ?ha ?_; (case hm => first | with_reducible assumption | repeat (first | exact .head _ | with_reducible assumption | apply mC)); (case hv => first | rfl | with_reducible assumption)) | ((first | refine' xAd (by decide) rfl rfl rfl rfl (fun w => ?hq) ?ha ?_ | refine' xBf (by decide) rfl rfl rfl rfl (fun w => ?hq) ?ha ?_ | refine' xAp (by decide) rfl rfl rfl (fun w => ?hq) ?ha ?_ | refine' xAe (by decide) rfl rfl rfl (fun w => ?hq) ?ha ?_ | refine' xAo (by decide) rfl rfl rfl (fun w => ?hq) ?ha ?_ | refine' xBd (by decide) rfl rfl rfl rfl (fun w => ?hq) ?ha ?_ | refine' xBc (by decide) rfl rfl rfl rfl rfl rfl (fun w => ?hq) ?ha ?_ | refine' xBb (by decide) rfl rfl (fun w => ?hq) ?ha ?_ | refine' xAq (by decide) rfl rfl rfl (fun w => ?hq) ?ha ?_ | refine' xBe (by decide) rfl rfl rfl (fun w => ?hq) ?ha ?_); (case hq => go_simp; try rfl)) | (refine' xAh (by decide) rfl rfl rfl ?ha ?_) | (refine' xBl (by decide) rfl rfl rfl rfl ?ha ?_) | (refine' xBk (by decide) rfl ?ha ?_)); try (case ha => simp only [kP, kQ, kA, kB]; try rfl))
  refine xBs (hK _ _ ?_)
  clear hK K
  repeat' (first
    | exact f_nil
    | (refine f_is 3 ?_; refine f_call _ rfl rfl rfl rfl rfl (xBi Tryz.func10 (by kernel_rfl) (by kernel_rfl) _) (fun w hw => signs_made (p := p) (q := q) (g := g) (h := h) (key := key) (H := H) hw) (fun v M hM => ?_) ?_; (obtain ⟨b3, b4, b5, rfl, rfl⟩ := hM; refine ⟨(by repeat (first | exact xBu | refine xBn (by repeat (first | exact .head _ | with_reducible assumption | apply mC)) ?_)), ?_⟩; try simp only [Act.put, kA, kB, List.setIfInBounds_toArray]))
    | (refine f_is 5 ?_; refine f_y rfl rfl (yields_callV rfl rfl rfl rfl (xBi Tryz.func27 (by kernel_rfl) (by kernel_rfl) _) (fun w hw => cl _ _ _ _ (by repeat (first | exact .head _ | with_reducible assumption | apply mC)) (by repeat (first | exact .head _ | with_reducible assumption | apply mC)) (by repeat (first | exact .head _ | with_reducible assumption | apply mC)) w hw)) (by repeat (first | exact xBu | refine xBn (by repeat (first | exact .head _ | with_reducible assumption | apply mC)) ?_)) ?_ ?_; try simp only [Act.put, kA, kB, List.setIfInBounds_toArray])
    | (refine f_is 6 ?_; refine f_new rfl rfl (isNew_allocR rfl rfl) (by repeat (first | exact xBu | refine xBn (by repeat (first | exact .head _ | with_reducible assumption | apply mC)) ?_)) (fun b6 => ?_) ?_; try simp only [Act.put, kA, kB, List.setIfInBounds_toArray])
    | (refine f_is 7 ?_; refine f_s rfl rfl (xDf rfl rfl rfl inferInstance rfl rfl rfl rfl (by repeat (first | exact xAx.head | apply xAx.tail))) (by repeat (first | exact xBu | refine xBn (by repeat (first | exact .head _ | with_reducible assumption | apply mC)) ?_)) ?_ ?_; try simp only [Act.put, kA, kB, List.setIfInBounds_toArray])
    | refine f_at [3, 6] (by decide +kernel) rfl ?_
    | refine f_at [5, 6] (by decide +kernel) rfl ?_
    | refine f_at [3] (by decide +kernel) rfl ?_
    | refine f_at [5] (by decide +kernel) rfl ?_
    | refine f_at [6] (by decide +kernel) rfl ?_
    | refine f_at [7] (by decide +kernel) rfl ?_)
  all_goals refine f_end (by decide +kernel) (fun w hR => ?_)
  all_goals simp only [Exit.then]
  all_goals refine kz _ _ ?_
  all_goals clear kz
  all_goals go_wp2_with (first | (refine' xAb hR rfl rfl rfl ?_; clear hR; intro blk w hR) | (refine' xAa hR rfl rfl inferInstance ?_; clear hR; intro blk w hR) | (refine' aFq hR rfl rfl rfl inferInstance ?_) | (refine' aGq hR rfl rfl rfl inferInstance ?_) | (refine' aHq hR rfl rfl rfl inferInstance ?_) | (refine' aDq hR rfl rfl rfl inferInstance rfl ?_; clear hR; intro w hR) | (refine' aEq hR rfl rfl rfl inferInstance rfl rfl ?_; clear hR; intro w hR) | (go_at_call 11; refine (cm _).mono ?_; rintro e w ⟨rfl, hb⟩; replace hR := hR.call hb; clear hb) | (go_at_call 12; refine (ca _).mono ?_; rintro e w ⟨rfl, hb⟩; replace hR := hR.call hb; clear hb) | (refine' wpList_build rfl rfl ?hrun ?_; (case hrun => simp only [List.map_toArray, List.map_cons, List.map_nil]; exact bs _)))
  all_goals (refine' bodyPost_ret (xAz Tryz.results4 rfl (hR.loadAll (P := Tryz.prog) (ty := 30) ?hm ?hn)) rfl ⟨rfl, hR.below⟩; (case hm => repeat (first | exact .head _ | apply mC)); (case hn => rfl))
end
end Go.Proofs.YtgfoeongjhkdmaaGreat
