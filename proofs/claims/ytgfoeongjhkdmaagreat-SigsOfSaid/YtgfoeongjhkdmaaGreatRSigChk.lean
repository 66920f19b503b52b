/- The contract of sigs.Check. -/
import Derived.Test.YtgfoeongjhkdmaaGreatRSignY
import Derived.Test.YtgfoeongjhkdmaaGreatRGB
set_option linter.unusedVariables false
set_option linter.unusedSimpArgs false
namespace Go.Proofs.YtgfoeongjhkdmaaGreat
open Go.RowKit
theorem nl_one : [Value.int .u64 1, .int .u64 0, .int .u64 0, .int .u64 0] = nl 1 := by unfold nl; simp [wd_def]
@[go_sem] theorem equalIn_one (a : Nat) (w : World) : (Op.equalIn 10000 24 (.agg (nl a).toArray) (.agg #[.int .u64 1, .int .u64 0, .int .u64 0, .int .u64 0])).run Tryz.prog w = .ok (eqN a 1) w := by
  rw [show (Value.agg #[.int .u64 1, .int .u64 0, .int .u64 0, .int .u64 0]) = .agg (nl 1).toArray by rw [← nl_one]]; exact equalIn_num a 1 w
noncomputable def chkR (p q g key c s : Nat) : Nat := mulN (powN g s p) (powN key (subN 0 c q) p) p
def chkOk (p q g key : Nat) (H : Nat → Nat) (c s : Nat) : Prop := inG p q key ∧ key ≠ 1 ∧ okX q c s ∧ mayG p g ∧ chalN key (chkR p q g key c s) H q = c
section
variable {P : Program} {ops : Array Oper} {B0 : Nat} {w0 : World} {Kp : List (Nat × Obj)} {Q : Exit → Act → World → Prop} {L L' : List (Nat × Obj)}
theorem f_callW {n : Nat} {listed : Array Bool} {a : Act} {i : Nat} {r : List Nat} {oi : Oper} {di : Tmp} (R : Value → List (Nat × Obj) → Prop) (hoi : ops[i]? = some oi) (hdi : oi.dst = some di) (hw' : Region.wanted oi (yielded ops a.tmps) = true) {f : FuncId} {xs : List Operand} {us : Array TypeId} (hop : oi.op = .call { callee := .value (.func f), args := xs.toArray, argTypes := us }) {vs : List Value} (hx' : evL a xs = some vs)
    (hent : ∀ w, (callFunc f vs.toArray).run P w = .ok (.enter f vs.toArray) w) (hq : ∀ w, Rep B0 w0 L w → Calls P f vs.toArray w fun e w' => ∃ v, e = .returned v ∧ outW B0 w0 R v w')
    (h : ∀ v M, R v M → (∀ p, p ∈ Kp → p ∈ M) ∧ wpAnyF P ops B0 w0 Kp Q n (listed.setIfInBounds i true) (a.put (some di) v) M) (hr : stepsF P ops B0 w0 Kp Q n listed a L r) : stepsF P ops B0 w0 Kp Q n listed a L (i :: r) := by
  rw [← hdi] at h
  refine ⟨⟨oi, hoi, R, .inl ⟨hw', fun w hw => ?_⟩, h⟩, hr⟩
  have e : (execOp a.eval oi).run P w = .ok (.enter f vs.toArray) w := by
    have hx := xDb hx'
    unfold execOp
    simp only [hop, resolve, Deferred.ofValue, Act.eval, Sem.run_bind, Sem.run_pure, Result.andThen_ok, hx]
    have := hent w
    simpa [invoke] using this
  rw [e]
  exact hq w hw
theorem yields_callVW {o : Oper} {a : Act} (hw' : Region.wanted o (yielded ops a.tmps) = true) {f : FuncId} {x : Operand} {xs : List Operand} {us : Array TypeId} (hop : o.op = .call { callee := .value x, args := xs.toArray, argTypes := us }) {caps : List Value} (hf : ev a x = some (.func (.func f) #[] caps.toArray)) {vs : List Value} {v : Value} (hx' : evL a xs = some vs)
    (hent : ∀ w, (callFunc f (vs ++ caps).toArray).run P w = .ok (.enter f (vs ++ caps).toArray) w) (hq : ∀ w, Rep B0 w0 L w → Calls P f (vs ++ caps).toArray w fun e w' => e = .returned v ∧ Rep B0 w0 L' w') : xBy P ops o v a (Rep B0 w0 L) (Rep B0 w0 L') :=
  .inl ⟨hw', fun w hR => by
    have e : (execOp a.eval o).run P w = .ok (.enter f (vs ++ caps).toArray) w := by
      have hx := xDb hx'
      have hf := xBt hf
      unfold execOp
      simp only [hop, resolve, Deferred.ofValue, hf, Sem.run_bind, Sem.run_pure, Result.andThen_ok, hx]
      have := hent w
      simpa [invoke] using this
    rw [e]
    exact (hq w hR).mono fun e' w' ⟨he, hb⟩ => ⟨he, hb⟩⟩
end
section
variable {p q g h key c s : Nat} {H : Nat → Nat}
attribute [local irreducible] Calls Instr.build Instr.buildSlice
set_option maxRecDepth 100000 in
set_option maxHeartbeats 8000000 in
theorem chk_early (hp : p < B) (hq : q < B) (hk : key < B) (hc : c < B) (hs : s < B) (hno : ¬ (inG p q key ∧ key ≠ 1 ∧ okX q c s)) (w : World) : Calls Tryz.prog 6 #[grp p q g h, num key, .agg (u8s 32 H).toArray, sigV c s] w fun e' w' =>
    e' = .returned (.bool false) ∧ Below w.heap.size w w' := by
  classical
  have tc : ((nl2 c s).drop 0).take 4 = nl c := rfl
  have ts : ((nl2 c s).drop 4).take 4 = nl s := rfl
  have cx := fun (b : Bool) (hb : decide (okX q c s) = b) (b0 : Nat) (L : List (Nat × Obj)) (w' : World) (hm : (b0, Obj.cells (nl2 c s).toArray 24) ∈ L) (hR : Rep w.heap.size w L w') => exps_lit (p := p) (g := g) (h := h) hq hc hs hb hm hR
  have hR := Rep.init w
  by_cases ig : inG p q key
  · have i1 := gin_lit (g := g) (h := h) (s := true) hp hq hk ⟨fun _ => ig, fun _ => rfl⟩
    by_cases k1 : key = 1
    · have ek : eqN key 1 = true := eqN_yes k1
      clear hno ig k1 cx
      go_enter Tryz.func6, Tryz.ntmps6
      go_wp2_with (first | go_skip | (refine' xAb hR rfl rfl rfl ?_; clear hR; intro blk w hR) | (refine' xAa hR rfl rfl inferInstance ?_; clear hR; intro blk w hR) | (refine' aFq hR rfl rfl rfl inferInstance ?_) | (refine' aGq hR rfl rfl rfl inferInstance ?_) | (refine' aHq hR rfl rfl rfl inferInstance ?_) | (refine' aDq hR rfl rfl rfl inferInstance rfl ?_; clear hR; intro w hR) | (refine' aEq hR rfl rfl rfl inferInstance rfl rfl ?_; clear hR; intro w hR) | (refine' xAy hR rfl rfl rfl inferInstance ?hm ?hn ?_; (case hm => first | with_reducible assumption | repeat (first | exact .head _ | with_reducible assumption | apply mC)); (case hn => first | rfl | simp)) | (refine' xAt hR rfl rfl rfl inferInstance ?hm ?hv ?_; (case hm => first | with_reducible assumption | repeat (first | exact .head _ | with_reducible assumption | apply mC)); (case hv => first | rfl | with_reducible assumption)) | (refine' xBh hR rfl rfl rfl inferInstance ?hm ?hv ?hn ?_; (case hm => first | with_reducible assumption | repeat (first | exact .head _ | with_reducible assumption | apply mC)); (case hv => first | with_reducible assumption | (simp only [kC, kD, kE, kF]; try rfl)); (case hn => first | rfl | simp)) | (go_at_call 19; refine (i1 _).mono ?_; rintro e w ⟨rfl, hb⟩; replace hR := hR.call hb; clear hb))
      go_ret
      exact ⟨rfl, hR.below⟩
    · have ek : eqN key 1 = false := xDl hk (lt_B (by decide)) k1
      replace cx := cx false (decide_eq_false fun h => hno ⟨ig, k1, h⟩)
      clear hno ig k1
      go_enter Tryz.func6, Tryz.ntmps6
      go_wp2_with (first | go_skip | (refine' xAb hR rfl rfl rfl ?_; clear hR; intro blk w hR) | (refine' xAa hR rfl rfl inferInstance ?_; clear hR; intro blk w hR) | (refine' aFq hR rfl rfl rfl inferInstance ?_) | (refine' aGq hR rfl rfl rfl inferInstance ?_) | (refine' aHq hR rfl rfl rfl inferInstance ?_) | (refine' aDq hR rfl rfl rfl inferInstance rfl ?_; clear hR; intro w hR) | (refine' aEq hR rfl rfl rfl inferInstance rfl rfl ?_; clear hR; intro w hR) | (refine' xAy hR rfl rfl rfl inferInstance ?hm ?hn ?_; (case hm => first | with_reducible assumption | repeat (first | exact .head _ | with_reducible assumption | apply mC)); (case hn => first | rfl | simp)) | (refine' xAt hR rfl rfl rfl inferInstance ?hm ?hv ?_; (case hm => first | with_reducible assumption | repeat (first | exact .head _ | with_reducible assumption | apply mC)); (case hv => first | rfl | with_reducible assumption)) | (refine' xBh hR rfl rfl rfl inferInstance ?hm ?hv ?hn ?_; (case hm => first | with_reducible assumption | repeat (first | exact .head _ | with_reducible assumption | apply mC)); (case hv => first | with_reducible assumption | (simp only [kC, kD, kE, kF]; try rfl)); (case hn => first | rfl | simp)) | (go_at_call 19; refine (i1 _).mono ?_; rintro e w ⟨rfl, hb⟩; replace hR := hR.call hb; clear hb) | (refine' wpList_twoG hR rfl rfl rfl rfl (build_nums2 _ _) ?_; clear hR; intro bt w hR) | (go_at_call 9; refine (cx _ _ _ (.head _) hR).mono ?_; clear hR; rintro e w ⟨rfl, hR⟩))
      go_ret
      exact ⟨rfl, hR.below⟩
  · have i1 := gin_lit (g := g) (h := h) (s := false) hp hq hk ⟨fun h => (by cases h), fun h => absurd h ig⟩
    clear hno cx ig
    go_enter Tryz.func6, Tryz.ntmps6
    go_wp2_with (first | go_skip | (refine' xAb hR rfl rfl rfl ?_; clear hR; intro blk w hR) | (refine' xAa hR rfl rfl inferInstance ?_; clear hR; intro blk w hR) | (refine' aFq hR rfl rfl rfl inferInstance ?_) | (refine' aGq hR rfl rfl rfl inferInstance ?_) | (refine' aHq hR rfl rfl rfl inferInstance ?_) | (refine' aDq hR rfl rfl rfl inferInstance rfl ?_; clear hR; intro w hR) | (refine' aEq hR rfl rfl rfl inferInstance rfl rfl ?_; clear hR; intro w hR) | (refine' xAy hR rfl rfl rfl inferInstance ?hm ?hn ?_; (case hm => first | with_reducible assumption | repeat (first | exact .head _ | with_reducible assumption | apply mC)); (case hn => first | rfl | simp)) | (refine' xAt hR rfl rfl rfl inferInstance ?hm ?hv ?_; (case hm => first | with_reducible assumption | repeat (first | exact .head _ | with_reducible assumption | apply mC)); (case hv => first | rfl | with_reducible assumption)) | (refine' xBh hR rfl rfl rfl inferInstance ?hm ?hv ?hn ?_; (case hm => first | with_reducible assumption | repeat (first | exact .head _ | with_reducible assumption | apply mC)); (case hv => first | with_reducible assumption | (simp only [kC, kD, kE, kF]; try rfl)); (case hn => first | rfl | simp)) | (go_at_call 19; refine (i1 _).mono ?_; rintro e w ⟨rfl, hb⟩; replace hR := hR.call hb; clear hb))
    go_ret
    exact ⟨rfl, hR.below⟩
set_option maxRecDepth 100000 in
set_option maxHeartbeats 16000000 in
theorem chk_late {res : Bool} (hp : p < B) (hq : q < B) (hg : g < B) (hk : key < B) (hc : c < B) (hs : s < B) (hH : ∀ i, H i < 256) (h1 : inG p q key) (h2 : key ≠ 1) (h3 : okX q c s) (hres : res = true ↔ mayG p g ∧ chalN key (chkR p q g key c s) H q = c) (w : World) : Calls Tryz.prog 6 #[grp p q g h, num key, .agg (u8s 32 H).toArray, sigV c s] w fun e' w' =>
    e' = .returned (.bool res) ∧ Below w.heap.size w w' := by
  classical
  have tg := gl_g p q g h
  have tc : ((nl2 c s).drop 0).take 4 = nl c := rfl
  have ts : ((nl2 c s).drop 4).take 4 = nl s := rfl
  have i1 := gin_lit (g := g) (h := h) (s := true) hp hq hk ⟨fun _ => h1, fun _ => rfl⟩
  have ek : eqN key 1 = false := xDl hk (lt_B (by decide)) h2
  have cx := fun (b0 : Nat) (L : List (Nat × Obj)) (w' : World) (hm : (b0, Obj.cells (nl2 c s).toArray 24) ∈ L) (hR : Rep w.heap.size w L w') => exps_lit (p := p) (g := g) (h := h) (s := true) hq hc hs (decide_eq_true h3) hm hR
  obtain ⟨n0, h0⟩ : ∃ n, n = 0 := ⟨_, rfl⟩
  have L0 : n0 < B := lt_B (by omega)
  obtain ⟨bk', hbk⟩ : ∃ x, subN 0 c q = x := ⟨_, rfl⟩
  have lb : bk' < q := by rw [← hbk, subN_def]; exact Nat.mod_lt _ (by have := h3.1; omega)
  have sb := ssub_lit (p := p) (g := g) (h := h) (e := 0) (r := bk') L0 hc hq (by rw [h0, if_pos ⟨h3.1, by have := h3.1; omega, h3.2.1⟩, hbk]) (by rw [h0]; exact if_pos ⟨h3.1, by have := h3.1; omega, h3.2.1⟩)
  rw [show num n0 = Value.agg #[.int .u64 0, .int .u64 0, .int .u64 0, .int .u64 0] by rw [h0]; exact xCs.symm] at sb
  have lB : bk' < B := by omega
  unfold chkR at hres
  rw [hbk] at hres
  obtain ⟨W, hW⟩ : ∃ x, x = w := ⟨_, rfl⟩
  subst hW
  have hR := Rep.init W
  by_cases hm : mayG p g
  · obtain ⟨r, hr⟩ : ∃ r, mulN (powN g s p) (powN key bk' p) p = r := ⟨_, rfl⟩
    have pr := fun (b1 b2 : Nat) (L : List (Nat × Obj)) (w' : World) (m1 : (b1, Obj.cells (nl2 g key).toArray 24) ∈ L) (m2 : (b2, Obj.cells (nl2 s bk').toArray 24) ∈ L) (hR : Rep W.heap.size W L w') => prod2_lit (q := q) (g := g) (h := h) (r := r) (e := 0) hp hq h1.1.1 hg hk hs lB (by rw [if_pos ⟨hm, h1.1⟩, hr]) (if_pos ⟨hm, h1.1⟩) m1 m2 hR
    rw [hr] at hres
    obtain ⟨x, hx⟩ : ∃ x, chalN key r H q = x := ⟨_, rfl⟩
    have lx : x < q := by rw [← hx]; exact chalN_lt (by have := h3.1; omega) _ _ _
    rw [hx] at hres
    have cl := fun (b3 b4 b5 : Nat) (M : List (Nat × Obj)) (m3 : (b3, Obj.cells (gl p q g h).toArray 26) ∈ M) (m4 : (b4, Obj.cells (nl key).toArray 24) ∈ M) (m5 : (b5, Obj.cells (u8s 32 H).toArray 28) ∈ M) (w' : World) (hR : Rep W.heap.size W M w') => sig_closure (r := r) hq hx hH m3 m4 m5 hR
    have bs := fun w => build_sig x s w
    have es : eqS c s x s = res := by
      rw [eqS_def, eqN_self, Bool.and_true]
      by_cases he : x = c
      · rw [eqN_yes he.symm]; exact (hres.2 ⟨hm, he⟩).symm
      · rw [xDl hc (by omega) (fun h => he h.symm)]
        cases res
        · rfl
        · exact absurd (hres.1 rfl).2 he
    clear hres hx hr lx hm h1 h2 h3 h0 L0 hbk lb lB
    replace hH := Held.mk hH
    replace cl := Held.mk cl
    have hone := u8s_one 32 H
    go_enter Tryz.func6, Tryz.ntmps6
    go_wp2_with (first | go_skip | (refine' xAb hR rfl rfl rfl ?_; clear hR; intro blk w hR) | (refine' xAa hR rfl rfl inferInstance ?_; clear hR; intro blk w hR) | (refine' aFq hR rfl rfl rfl inferInstance ?_) | (refine' aGq hR rfl rfl rfl inferInstance ?_) | (refine' aHq hR rfl rfl rfl inferInstance ?_) | (refine' aDq hR rfl rfl rfl inferInstance rfl ?_; clear hR; intro w hR) | (refine' aEq hR rfl rfl rfl inferInstance rfl rfl ?_; clear hR; intro w hR) | (refine' xAy hR rfl rfl rfl inferInstance ?hm ?hn ?_; (case hm => first | with_reducible assumption | repeat (first | exact .head _ | with_reducible assumption | apply mC)); (case hn => first | rfl | simp)) | (refine' xAt hR rfl rfl rfl inferInstance ?hm ?hv ?_; (case hm => first | with_reducible assumption | repeat (first | exact .head _ | with_reducible assumption | apply mC)); (case hv => first | rfl | with_reducible assumption)) | (refine' xBh hR rfl rfl rfl inferInstance ?hm ?hv ?hn ?_; (case hm => first | with_reducible assumption | repeat (first | exact .head _ | with_reducible assumption | apply mC)); (case hv => first | with_reducible assumption | (simp only [kC, kD, kE, kF]; try rfl)); (case hn => first | rfl | simp)) | (go_at_call 19; refine (i1 _).mono ?_; rintro e w ⟨rfl, hb⟩; replace hR := hR.call hb; clear hb) | (refine' wpList_twoG hR rfl rfl rfl rfl (build_nums2 _ _) ?_; clear hR; intro bt w hR) | (go_at_call 9; refine (cx _ _ _ (.head _) hR).mono ?_; clear hR; rintro e w ⟨rfl, hR⟩) | (go_at_call 20; refine (sb _).mono ?_; rintro e w ⟨rfl, hb⟩; replace hR := hR.call hb; clear hb) | (go_at_call 21; refine (pr _ _ _ _ (by repeat (first | exact .head _ | apply mC)) (by repeat (first | exact .head _ | apply mC)) hR).mono ?_; rintro e w ⟨rfl, hb⟩; replace hR := hR.call hb; clear hb))
    rename_i bg u1 bk u2 bh u3 bz u4 u5 bx u6 u7 u8 bb u9 u10 by1 u11 u12 u13 u14 K0 kz
    obtain ⟨br, hbr⟩ : ∃ x, x = blk := ⟨_, rfl⟩
    subst hbr
    refine wp_region_F hR 16 xCt rfl ?_
    clear hR
    refine fHeads [(bg, Obj.cells (gl p q g h).toArray 26), (bk, Obj.cells (nl key).toArray 24), (bh, Obj.cells (u8s 32 H).toArray 28), (bz, Obj.cells (nl2 c s).toArray 30), (br, Obj.cells (nl r).toArray 24)] [1, 1, 1, 1, 1, 1, 1, 2, 1, 2, 1, 1, 2, 2, 2, 2] 6 rfl (by repeat (first | exact xBu | refine xBn (by repeat (first | exact .head _ | with_reducible assumption | apply mC)) ?_)) (by repeat (first | exact xBu | refine xBn (by repeat (first | exact .head _ | with_reducible assumption | apply mC)) ?_)) rfl (by decide +kernel) (fun K hK => ?_)
    repeat ((first | (refine' hd_keepAll rfl rfl rfl inferInstance ?hm ?hn ?ha ?_; (case hm => first | with_reducible assumption | repeat (first | exact .head _ | apply mC)); (case hn => first | rfl | simp)) | (refine xBj ?_) | (refine' xAs (by decide) rfl (.inl rfl) rfl ?ha ?_) | (refine' xAs (by decide) rfl (.inr rfl) rfl ?ha ?_) | (refine' xAr rfl rfl rfl inferInstance ?hm ?hn ?ha ?_; (case hm => first | with_reducible assumption | repeat (first | exact .head _ | with_reducible assumption | apply mC)); (case hn => first | rfl | simp)) | (refine' xAm rfl rfl rfl inferInstance ?hm ?hv ?hn ?ha ?_; (case hm => first | with_reducible assumption | repeat (first | exact .head _ | with_reducible assumption | apply mC)); (case hv => first | with_reducible assumption | (simp only [kC, kD, kE, kF]; try rfl)); (case hn => first | rfl | simp)) | (refine' xAi rfl rfl rfl inferInstance ?hm ?hv ?ha ?_; (case hm => first | with_reducible assumption | repeat (first | exact .head _ | with_reducible assumption | apply mC)); (case hv => first | rfl | with_reducible assumption)) | (refine' xAn rfl rfl rfl inferInstance ?hm ?hv ?hn ?ha ?_; (case hm => first | with_reducible assumption | repeat (first | exact .head _ | with_reducible assumption | apply mC)); (case hv => first | with_reducible assumption | (simp only [kC, kD, kE, kF]; try rfl)); (case hn => first | rfl | simp)) | (refine' xAj rfl rfl rfl inferInstance ?hm ?hv ?ha ?_; (case hm => first | with_reducible assumption | repeat (first | exact .head _ | with_reducible assumption | apply mC)); (case hv => first | rfl | with_reducible assumption)) | ((first | refine' xAd (by decide) rfl rfl rfl rfl (fun w => ?hq) ?ha ?_ | refine' xBf (by decide) rfl rfl rfl rfl (fun w => ?hq) ?ha ?_ | refine' xAp (by decide) rfl rfl rfl (fun w => ?hq) ?ha ?_ | refine' xAe (by decide) rfl rfl rfl (fun w => ?hq) ?ha ?_ | refine' xAo (by decide) rfl rfl rfl (fun w => ?hq) ?ha ?_ | refine' xBd (by decide) rfl rfl rfl rfl (fun w => ?hq) ?ha ?_ | refine' xBc (by decide) rfl rfl rfl rfl rfl rfl (fun w => ?hq) ?ha ?_ | refine' xBb (by decide) rfl rfl (fun w => ?hq) ?ha ?_ | refine' xAq (by decide) rfl rfl rfl (fun w => ?hq) ?ha ?_ | refine' xBe (by decide) rfl rfl rfl (fun w => ?hq) ?ha ?_); (case hq => go_simp; try rfl)) | (refine' xAh (by decide) rfl rfl rfl ?ha ?_) | (refine' xBl (by decide) rfl rfl rfl rfl ?ha ?_) | (refine' xBk (by decide) rfl ?ha ?_)); try (case ha => simp only [kP, kQ, kA, kB]; try rfl))
    refine xBs (hK _ _ ?_)
    clear hK K
    refine f_at [7] (by decide +kernel) rfl ?_
    refine f_is 7 ?_
    refine f_callW (Signs p q g h key H _) rfl rfl rfl rfl rfl (xBi Tryz.func10 (by kernel_rfl) (by kernel_rfl) _) (fun w hw => signs_made (p := p) (q := q) (g := g) (h := h) (key := key) (H := H) hw) (fun v M hM => ?_) ?_
    case refine_2 => exact f_nil
    obtain ⟨b3, b4, b5, rfl, rfl⟩ := hM
    refine ⟨(by repeat (first | exact xBu | refine xBn (by repeat (first | exact .head _ | with_reducible assumption | apply mC)) ?_)), ?_⟩
    try simp only [Act.put, kA, kB, List.setIfInBounds_toArray]
    refine f_at [9] (by decide +kernel) rfl ?_
    refine f_is 9 ?_
    refine f_y rfl rfl (yields_callVW rfl rfl rfl rfl (xBi Tryz.func27 (by kernel_rfl) (by kernel_rfl) _) (fun w hw => cl.out _ _ _ _ (by repeat (first | exact .head _ | with_reducible assumption | apply mC)) (by repeat (first | exact .head _ | with_reducible assumption | apply mC)) (by repeat (first | exact .head _ | with_reducible assumption | apply mC)) w hw)) (by repeat (first | exact xBu | refine xBn (by repeat (first | exact .head _ | with_reducible assumption | apply mC)) ?_)) ?_ ?_
    case refine_2 => exact f_nil
    try simp only [Act.put, kA, kB, List.setIfInBounds_toArray]
    refine fHeads [(bg, Obj.cells (gl p q g h).toArray 26), (bk, Obj.cells (nl key).toArray 24), (bh, Obj.cells (u8s 32 H).toArray 28), (bz, Obj.cells (nl2 c s).toArray 30), (br, Obj.cells (nl r).toArray 24)] [2, 2, 2, 2, 2, 2, 2, 2, 2, 2, 2, 2, 1, 1, 1, 2] 1 rfl (by repeat (first | exact xBu | refine xBn (by repeat (first | exact .head _ | with_reducible assumption | apply mC)) ?_)) (by repeat (first | exact xBu | refine xBn (by repeat (first | exact .head _ | with_reducible assumption | apply mC)) ?_)) rfl (by decide +kernel) (fun K hK => ?_)
    repeat ((first | (refine' xBb (by decide) rfl rfl (fun w => ?hq) ?ha ?_; (case hq => simp only [List.map_toArray, List.map_cons, List.map_nil]; exact bs _)) | (refine' hd_keepAll rfl rfl rfl inferInstance ?hm ?hn ?ha ?_; (case hm => first | with_reducible assumption | repeat (first | exact .head _ | apply mC)); (case hn => first | rfl | simp)) | (refine xBj ?_) | (refine' xAs (by decide) rfl (.inl rfl) rfl ?ha ?_) | (refine' xAs (by decide) rfl (.inr rfl) rfl ?ha ?_) | (refine' xAr rfl rfl rfl inferInstance ?hm ?hn ?ha ?_; (case hm => first | with_reducible assumption | repeat (first | exact .head _ | with_reducible assumption | apply mC)); (case hn => first | rfl | simp)) | (refine' xAm rfl rfl rfl inferInstance ?hm ?hv ?hn ?ha ?_; (case hm => first | with_reducible assumption | repeat (first | exact .head _ | with_reducible assumption | apply mC)); (case hv => first | with_reducible assumption | (simp only [kC, kD, kE, kF]; try rfl)); (case hn => first | rfl | simp)) | (refine' xAi rfl rfl rfl inferInstance ?hm ?hv ?ha ?_; (case hm => first | with_reducible assumption | repeat (first | exact .head _ | with_reducible assumption | apply mC)); (case hv => first | rfl | with_reducible assumption)) | (refine' xAn rfl rfl rfl inferInstance ?hm ?hv ?hn ?ha ?_; (case hm => first | with_reducible assumption | repeat (first | exact .head _ | with_reducible assumption | apply mC)); (case hv => first | with_reducible assumption | (simp only [kC, kD, kE, kF]; try rfl)); (case hn => first | rfl | simp)) | (refine' xAj rfl rfl rfl inferInstance ?hm ?hv ?ha ?_; (case hm => first | with_reducible assumption | repeat (first | exact .head _ | with_reducible assumption | apply mC)); (case hv => first | rfl | with_reducible assumption)) | ((first | refine' xAd (by decide) rfl rfl rfl rfl (fun w => ?hq) ?ha ?_ | refine' xBf (by decide) rfl rfl rfl rfl (fun w => ?hq) ?ha ?_ | refine' xAp (by decide) rfl rfl rfl (fun w => ?hq) ?ha ?_ | refine' xAe (by decide) rfl rfl rfl (fun w => ?hq) ?ha ?_ | refine' xAo (by decide) rfl rfl rfl (fun w => ?hq) ?ha ?_ | refine' xBd (by decide) rfl rfl rfl rfl (fun w => ?hq) ?ha ?_ | refine' xBc (by decide) rfl rfl rfl rfl rfl rfl (fun w => ?hq) ?ha ?_ | refine' xBb (by decide) rfl rfl (fun w => ?hq) ?ha ?_ | refine' xAq (by decide) rfl rfl rfl (fun w => ?hq) ?ha ?_ | refine' xBe (by decide) rfl rfl rfl (fun w => ?hq) ?ha ?_); (case hq => go_simp; try rfl)) | (refine' xAh (by decide) rfl rfl rfl ?ha ?_) | (refine' xBl (by decide) rfl rfl rfl rfl ?ha ?_) | (refine' xBk (by decide) rfl ?ha ?_)); try (case ha => simp only [kP, kQ, kA, kB]; try rfl))
    refine xBs (hK _ _ ?_)
    clear hK K
    refine f_at [15] (by decide +kernel) rfl ?_
    refine f_is 15 ?_
    refine f_y rfl rfl (yields_move rfl rfl rfl) (by repeat (first | exact xBu | refine xBn (by repeat (first | exact .head _ | with_reducible assumption | apply mC)) ?_)) ?_ ?_
    case refine_2 => exact f_nil
    try simp only [Act.put, kA, kB, List.setIfInBounds_toArray]
    refine f_end (by decide +kernel) (fun w hR => ?_)
    simp only [Exit.then]
    refine kz _ _ ?_
    clear kz
    go_wp2_with (first | (refine' xAb hR rfl rfl rfl ?_; clear hR; intro blk w hR) | (refine' xAa hR rfl rfl inferInstance ?_; clear hR; intro blk w hR) | (refine' aFq hR rfl rfl rfl inferInstance ?_) | (refine' aGq hR rfl rfl rfl inferInstance ?_) | (refine' aHq hR rfl rfl rfl inferInstance ?_) | (refine' aDq hR rfl rfl rfl inferInstance rfl ?_; clear hR; intro w hR) | (refine' aEq hR rfl rfl rfl inferInstance rfl rfl ?_; clear hR; intro w hR) | fail)
    go_ret
    exact ⟨rfl, hR.below⟩
  · have pr := fun (b1 b2 : Nat) (L : List (Nat × Obj)) (w' : World) (m1 : (b1, Obj.cells (nl2 g key).toArray 24) ∈ L) (m2 : (b2, Obj.cells (nl2 s bk').toArray 24) ∈ L) (hR : Rep W.heap.size W L w') => prod2_lit (q := q) (g := g) (h := h) (r := 0) (e := 1) hp hq h1.1.1 hg hk hs lB (if_neg fun h => hm h.1) (if_neg fun h => hm h.1) m1 m2 hR
    obtain rfl : res = false := by
      cases res
      · rfl
      · exact absurd (hres.1 rfl).1 hm
    clear hres hm h1 h2 h3 h0 L0 hbk lb lB hH
    go_enter Tryz.func6, Tryz.ntmps6
    go_wp2_with (first | go_skip | (refine' xAb hR rfl rfl rfl ?_; clear hR; intro blk w hR) | (refine' xAa hR rfl rfl inferInstance ?_; clear hR; intro blk w hR) | (refine' aFq hR rfl rfl rfl inferInstance ?_) | (refine' aGq hR rfl rfl rfl inferInstance ?_) | (refine' aHq hR rfl rfl rfl inferInstance ?_) | (refine' aDq hR rfl rfl rfl inferInstance rfl ?_; clear hR; intro w hR) | (refine' aEq hR rfl rfl rfl inferInstance rfl rfl ?_; clear hR; intro w hR) | (refine' xAy hR rfl rfl rfl inferInstance ?hm ?hn ?_; (case hm => first | with_reducible assumption | repeat (first | exact .head _ | with_reducible assumption | apply mC)); (case hn => first | rfl | simp)) | (refine' xAt hR rfl rfl rfl inferInstance ?hm ?hv ?_; (case hm => first | with_reducible assumption | repeat (first | exact .head _ | with_reducible assumption | apply mC)); (case hv => first | rfl | with_reducible assumption)) | (refine' xBh hR rfl rfl rfl inferInstance ?hm ?hv ?hn ?_; (case hm => first | with_reducible assumption | repeat (first | exact .head _ | with_reducible assumption | apply mC)); (case hv => first | with_reducible assumption | (simp only [kC, kD, kE, kF]; try rfl)); (case hn => first | rfl | simp)) | (go_at_call 19; refine (i1 _).mono ?_; rintro e w ⟨rfl, hb⟩; replace hR := hR.call hb; clear hb) | (refine' wpList_twoG hR rfl rfl rfl rfl (build_nums2 _ _) ?_; clear hR; intro bt w hR) | (go_at_call 9; refine (cx _ _ _ (.head _) hR).mono ?_; clear hR; rintro e w ⟨rfl, hR⟩) | (go_at_call 20; refine (sb _).mono ?_; rintro e w ⟨rfl, hb⟩; replace hR := hR.call hb; clear hb) | (go_at_call 21; refine (pr _ _ _ _ (by repeat (first | exact .head _ | apply mC)) (by repeat (first | exact .head _ | apply mC)) hR).mono ?_; rintro e w ⟨rfl, hb⟩; replace hR := hR.call hb; clear hb))
    refine xAg hR [0, 0, 0, 0, 0, 0, 0, 0, 0, 0, 0, 0, 0, 0, 0, 2] [] xCt (by kernel_rfl) rfl rfl (fun K hK => ?_)
    clear hR
    repeat ((first | (refine xBj ?_) | (refine' xAs (by decide) rfl (.inl rfl) rfl ?ha ?_) | (refine' xAs (by decide) rfl (.inr rfl) rfl ?ha ?_) | (refine' xAr rfl rfl rfl inferInstance ?hm ?hn ?ha ?_; (case hm => first | with_reducible assumption | repeat (first | exact .head _ | with_reducible assumption | apply mC)); (case hn => first | rfl | simp)) | (refine' xAm rfl rfl rfl inferInstance ?hm ?hv ?hn ?ha ?_; (case hm => first | with_reducible assumption | repeat (first | exact .head _ | with_reducible assumption | apply mC)); (case hv => first | with_reducible assumption | (simp only [kC, kD, kE, kF]; try rfl)); (case hn => first | rfl | simp)) | (refine' xAi rfl rfl rfl inferInstance ?hm ?hv ?ha ?_; (case hm => first | with_reducible assumption | repeat (first | exact .head _ | with_reducible assumption | apply mC)); (case hv => first | rfl | with_reducible assumption)) | (refine' xAn rfl rfl rfl inferInstance ?hm ?hv ?hn ?ha ?_; (case hm => first | with_reducible assumption | repeat (first | exact .head _ | with_reducible assumption | apply mC)); (case hv => first | with_reducible assumption | (simp only [kC, kD, kE, kF]; try rfl)); (case hn => first | rfl | simp)) | (refine' xAj rfl rfl rfl inferInstance ?hm ?hv ?ha ?_; (case hm => first | with_reducible assumption | repeat (first | exact .head _ | with_reducible assumption | apply mC)); (case hv => first | rfl | with_reducible assumption)) | ((first | refine' xAd (by decide) rfl rfl rfl rfl (fun w => ?hq) ?ha ?_ | refine' xBf (by decide) rfl rfl rfl rfl (fun w => ?hq) ?ha ?_ | refine' xAp (by decide) rfl rfl rfl (fun w => ?hq) ?ha ?_ | refine' xAe (by decide) rfl rfl rfl (fun w => ?hq) ?ha ?_ | refine' xAo (by decide) rfl rfl rfl (fun w => ?hq) ?ha ?_ | refine' xBd (by decide) rfl rfl rfl rfl (fun w => ?hq) ?ha ?_ | refine' xBc (by decide) rfl rfl rfl rfl rfl rfl (fun w => ?hq) ?ha ?_ | refine' xBb (by decide) rfl rfl (fun w => ?hq) ?ha ?_ | refine' xAq (by decide) rfl rfl rfl (fun w => ?hq) ?ha ?_ | refine' xBe (by decide) rfl rfl rfl (fun w => ?hq) ?ha ?_); (case hq => go_simp; try rfl)) | (refine' xAh (by decide) rfl rfl rfl ?ha ?_) | (refine' xBl (by decide) rfl rfl rfl rfl ?ha ?_) | (refine' xBk (by decide) rfl ?ha ?_) | fail); try (case ha => simp only [kP, kQ, kA, kB]; try rfl))
    refine xBs (hK _ _ ?_)
    clear hK K
    refine xBx (fun Q hQ => ?_)
    try simp only [List.nil_append, List.cons_append]
    repeat ((first | refine' xBa rfl (.inl rfl) rfl ?hk ?ha ?_ | refine' xBa rfl (.inr rfl) rfl ?hk ?ha ?_ | (refine' xAv rfl rfl rfl inferInstance rfl ?hs rfl rfl ?hn ?hk ?ha ?_; (case hs => repeat (first | exact xAx.head | apply xAx.tail)); (case hn => first | rfl | simp)) | (refine' xAl rfl rfl rfl inferInstance rfl rfl ?hs ?hn ?hl ?hk ?ha ?_; (case hs => repeat (first | exact xAx.head | apply xAx.tail)); (case hn => first | exact oD rfl | (show _ < 4; with_reducible assumption) | (simp; try omega)); (case hl => first | with_reducible assumption | (simp only [nl, kA, kB]; first | done | rfl) | rfl)) | (refine' xAw rfl rfl rfl inferInstance rfl rfl ?hvn ?hs ?hn ?hl ?hk ?ha ?_; (case hvn => first | rfl | simp); (case hs => repeat (first | exact xAx.head | apply xAx.tail)); (case hn => first | exact oD rfl | (show _ < 4; with_reducible assumption) | (simp; try omega)); (case hl => first | with_reducible assumption | (simp only [nl, kA, kB]; first | done | rfl) | rfl)) | (refine' xBm rfl (fun w => ?hq) ?hk ?ha ?_; (case hq => go_simp; try rfl))); (case hk => intro p hp; first | exact absurd hp List.not_mem_nil | (obtain rfl := List.mem_singleton.1 hp; repeat (first | exact List.Mem.head _ | with_reducible assumption | apply mC))); (case ha => simp only [kP, kQ, kA, kB]; try rfl))
    refine xBw (fun w hR => hQ _ _ ?_)
    clear hQ Q
    go_wp2_with (first | (refine' xAb hR rfl rfl rfl ?_; clear hR; intro blk w hR) | (refine' xAa hR rfl rfl inferInstance ?_; clear hR; intro blk w hR) | (refine' aFq hR rfl rfl rfl inferInstance ?_) | (refine' aGq hR rfl rfl rfl inferInstance ?_) | (refine' aHq hR rfl rfl rfl inferInstance ?_) | (refine' aDq hR rfl rfl rfl inferInstance rfl ?_; clear hR; intro w hR) | (refine' aEq hR rfl rfl rfl inferInstance rfl rfl ?_; clear hR; intro w hR) | fail)
    go_ret
    exact ⟨rfl, hR.below⟩
theorem chk_lit {res : Bool} (hp : p < B) (hq : q < B) (hg : g < B) (hk : key < B) (hc : c < B) (hs : s < B) (hH : ∀ i, H i < 256) (hres : res = true ↔ chkOk p q g key H c s) (w : World) : Calls Tryz.prog 6 #[grp p q g h, num key, .agg (u8s 32 H).toArray, sigV c s] w fun e' w' =>
    e' = .returned (.bool res) ∧ Below w.heap.size w w' := by
  classical
  by_cases h' : inG p q key ∧ key ≠ 1 ∧ okX q c s
  · obtain ⟨h1, h2, h3⟩ := h'
    exact chk_late hp hq hg hk hc hs hH h1 h2 h3 ⟨fun h => (hres.1 h).2.2.2, fun h => hres.2 ⟨h1, h2, h3, h⟩⟩ w
  · obtain rfl : res = false := by
      cases res
      · rfl
      · exact absurd ⟨(hres.1 rfl).1, (hres.1 rfl).2.1, (hres.1 rfl).2.2.1⟩ h'
    exact chk_early hp hq hk hc hs h' w
end
end Go.Proofs.YtgfoeongjhkdmaaGreat
