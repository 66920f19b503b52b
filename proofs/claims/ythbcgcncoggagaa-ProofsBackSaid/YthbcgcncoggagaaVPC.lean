/- The contract of proofs.Check. -/
import Derived.Test.YthbcgcncoggagaaVPB
import Derived.Test.YthbcgcncoggagaaVW
set_option linter.unusedVariables false
set_option linter.unusedSimpArgs false
namespace Go.Proofs.Ythbcgcncoggagaa
open Go.RowKit
theorem build_n4 (a b c d : Nat) (w : World) : (Instr.build 88 #[(0, .agg (nl a).toArray), (1, .agg (nl b).toArray), (2, .agg (nl c).toArray), (3, .agg (nl d).toArray)]).run Try.prog w = .ok (.agg (gl a b c d).toArray) w := by
  unfold gl nl
  kernel_rfl
@[go_sem] theorem index_n4_0 (a b c d : Nat) (w : World) : (Instr.index 88 (.agg (gl a b c d).toArray) (.int .i64 0)).run Try.prog w = .ok (.agg (nl a).toArray) w := by unfold gl nl; kernel_rfl
@[go_sem] theorem index_n4_1 (a b c d : Nat) (w : World) : (Instr.index 88 (.agg (gl a b c d).toArray) (.int .i64 1)).run Try.prog w = .ok (.agg (nl b).toArray) w := by unfold gl nl; kernel_rfl
@[go_sem] theorem index_n4_2 (a b c d : Nat) (w : World) : (Instr.index 88 (.agg (gl a b c d).toArray) (.int .i64 2)).run Try.prog w = .ok (.agg (nl c).toArray) w := by unfold gl nl; kernel_rfl
@[go_sem] theorem index_n4_3 (a b c d : Nat) (w : World) : (Instr.index 88 (.agg (gl a b c d).toArray) (.int .i64 3)).run Try.prog w = .ok (.agg (nl d).toArray) w := by unfold gl nl; kernel_rfl
theorem wpList_build4 {P : Program} {ops : Array Oper} {rest : List Oper} {o : Oper} {a : Act} {w : World} {Q : Exit → Act → World → Prop} (hg : o.guard = none) {t : TypeId} {x0 x1 x2 x3 : Operand} (hop : o.op = .build t #[(0, x0), (1, x1), (2, x2), (3, x3)]) {v0 v1 v2 v3 v : Value} (h0 : ev a x0 = some v0) (h1 : ev a x1 = some v1) (h2 : ev a x2 = some v2) (h3 : ev a x3 = some v3)
    (hrun : ∀ w, (Instr.build t #[(0, v0), (1, v1), (2, v2), (3, v3)]).run P w = .ok v w) (h : wpList P ops Q rest (a.put o.dst v) w) : wpList P ops Q (o :: rest) a w :=
  wpList_plain hg fun _ hK => by
    have h0 := xBo h0
    have h1 := xBo h1
    have h2 := xBo h2
    have h3 := xBo h3
    unfold Oper.wp execOp
    simp only [hop, List.map_toArray, List.map_cons, List.map_nil, h0, h1, h2, h3, hrun, Sem.run_bind, Result.andThen_ok, Sem.run_pure]
    exact hK _ _ h
noncomputable def meetN (p q base S a c : Nat) : Nat := mulN (powN base S p) (powN a (subN 0 c q) p) p
def pchkOk (p q : Nat) (s : ByteArray) (base a y b c S : Nat) : Prop := (inG p q base ∧ inG p q a ∧ inG p q y ∧ inG p q b) ∧ (1 < q ∧ c < q) ∧ (1 < q ∧ S < q) ∧ chalP s [base, a, y, b, meetN p q base S a c, meetN p q y S b c] q = c
theorem six_bools : ∀ s0 s1 s2 s3 s4 s5 : Bool, ¬ (s0 = true ∧ s1 = true ∧ s2 = true ∧ s3 = true ∧ s4 = true ∧ s5 = true) → s0 = false ∨ (s0 = true ∧ s1 = false) ∨ (s0 = true ∧ s1 = true ∧ s2 = false) ∨ (s0 = true ∧ s1 = true ∧ s2 = true ∧ s3 = false) ∨ (s0 = true ∧ s1 = true ∧ s2 = true ∧ s3 = true ∧ s4 = false) ∨ (s0 = true ∧ s1 = true ∧ s2 = true ∧ s3 = true ∧ s4 = true ∧ s5 = false) := by
  intro s0 s1 s2 s3 s4 s5
  cases s0 <;> cases s1 <;> cases s2 <;> cases s3 <;> cases s4 <;> cases s5 <;> simp
attribute [local irreducible] Calls Instr.build Instr.buildSlice
section
variable {p q g h base a y b c S : Nat} {s : ByteArray}
set_option maxRecDepth 100000 in
set_option maxHeartbeats 16000000 in
theorem pchk_early (hp : p < B) (hq : q < B) (hb : base < B) (ha : a < B) (hy : y < B) (hb' : b < B) (hc : c < B) (hS : S < B) (hno : ¬ ((inG p q base ∧ inG p q a ∧ inG p q y ∧ inG p q b) ∧ (1 < q ∧ c < q) ∧ (1 < q ∧ S < q))) (w : World) : Calls Try.prog 17 #[grp p q g h, .string s, num base, num a, num y, num b, prfV c S] w fun e' w' =>
    e' = .returned (.bool false) ∧ Below w.heap.size w w' := by
  classical
  have tc : ((nl2 c S).drop 0).take 4 = nl c := rfl
  have ts : ((nl2 c S).drop 4).take 4 = nl S := rfl
  obtain ⟨s0, e0⟩ : ∃ x, decide (inG p q base) = x := ⟨_, rfl⟩
  have i0 := xCy (g := g) (h := h) (s := s0) hp hq hb (by rw [← e0]; exact decide_eq_true_iff)
  obtain ⟨s1, e1⟩ : ∃ x, decide (inG p q a) = x := ⟨_, rfl⟩
  have i1 := xCy (g := g) (h := h) (s := s1) hp hq ha (by rw [← e1]; exact decide_eq_true_iff)
  obtain ⟨s2, e2⟩ : ∃ x, decide (inG p q y) = x := ⟨_, rfl⟩
  have i2 := xCy (g := g) (h := h) (s := s2) hp hq hy (by rw [← e2]; exact decide_eq_true_iff)
  obtain ⟨s3, e3⟩ : ∃ x, decide (inG p q b) = x := ⟨_, rfl⟩
  have i3 := xCy (g := g) (h := h) (s := s3) hp hq hb' (by rw [← e3]; exact decide_eq_true_iff)
  obtain ⟨s4, e4⟩ : ∃ x, decide (1 < q ∧ c < q) = x := ⟨_, rfl⟩
  obtain ⟨s5, e5⟩ : ∃ x, decide (1 < q ∧ S < q) = x := ⟨_, rfl⟩
  have f1 := fexp_lit (p := p) (g := g) (h := h) (s := s) hq hc e4
  have f2 := fexp_lit (p := p) (g := g) (h := h) (s := s) hq hS e5
  have hcs : s0 = false ∨ (s0 = true ∧ s1 = false) ∨ (s0 = true ∧ s1 = true ∧ s2 = false) ∨ (s0 = true ∧ s1 = true ∧ s2 = true ∧ s3 = false) ∨ (s0 = true ∧ s1 = true ∧ s2 = true ∧ s3 = true ∧ s4 = false) ∨ (s0 = true ∧ s1 = true ∧ s2 = true ∧ s3 = true ∧ s4 = true ∧ s5 = false) := by
    have : ¬ (s0 = true ∧ s1 = true ∧ s2 = true ∧ s3 = true ∧ s4 = true ∧ s5 = true) := by
      rw [← e0, ← e1, ← e2, ← e3, ← e4, ← e5]
      simp only [decide_eq_true_eq]
      exact fun ⟨a1, a2, a3, a4, a5, a6⟩ => hno ⟨⟨a1, a2, a3, a4⟩, a5, a6⟩
    exact six_bools s0 s1 s2 s3 s4 s5 this
  clear hno e0 e1 e2 e3 e4 e5
  have hR := Rep.init w
  rcases hcs with rfl | ⟨rfl, rfl⟩ | ⟨rfl, rfl, rfl⟩ | ⟨rfl, rfl, rfl, rfl⟩ | ⟨rfl, rfl, rfl, rfl, rfl⟩ | ⟨rfl, rfl, rfl, rfl, rfl, rfl⟩
  all_goals
    go_enter Try.func17, Try.ntmps17
    go_upto_region 2 with (first | (refine' xAe hR rfl rfl rfl ?_; clear hR; intro blk w hR) | (refine' xAb hR rfl rfl inferInstance ?_; clear hR; intro blk w hR) | (refine' xAc hR rfl rfl rfl inferInstance ?hm ?hn ?_; (case hm => first | with_reducible assumption | repeat (first | exact .head _ | with_reducible assumption | apply mC)); (case hn => first | rfl | simp)) | (refine' xAd hR rfl rfl rfl inferInstance ?hm ?hv ?hn ?_; (case hm => first | with_reducible assumption | repeat (first | exact .head _ | with_reducible assumption | apply mC)); (case hv => first | with_reducible assumption | (simp only [kC, kD, kE, kF]; try rfl)); (case hn => first | rfl | simp)) | (refine' xBg hR rfl rfl rfl inferInstance ?hm ?hv ?_; (case hm => first | with_reducible assumption | repeat (first | exact .head _ | with_reducible assumption | apply mC)); (case hv => first | rfl | with_reducible assumption)) | (refine' xAa hR rfl rfl rfl inferInstance rfl ?hs ?zone ?zvn ?hn ?_; (case hs => repeat (first | exact xAf.head | apply xAf.tail)); (case zone => first | rfl | with_reducible assumption); (case zvn => first | rfl | simp); (case hn => first | rfl | simp); clear hR; intro w hR) | (refine' xBe hR rfl rfl rfl inferInstance rfl rfl ?hs ?hn ?hl ?_; (case hs => repeat (first | exact xAf.head | apply xAf.tail)); (case hn => first | exact oD rfl | (show _ < 4; with_reducible assumption) | (simp; try omega)); (case hl => first | with_reducible assumption | (simp only [nl, kA, kB]; first | done | rfl) | rfl); clear hR; intro w hR) | (refine' xCf (t := 84) rfl rfl ?hrun ?_; (case hrun => simp only [List.map_toArray, List.map_cons, List.map_nil]; exact build_fld _ _ _ _ _ _)))
    refine wp_region_lit ?_
    simp only [Act.put, kA, kB, List.setIfInBounds_toArray]
    iterate 4 (refine' xAc hR rfl rfl rfl inferInstance ?hm ?hn ?_; (case hm => repeat (first | exact .head _ | apply mC)); (case hn => rfl); simp only [Act.put, kA, kB, List.setIfInBounds_toArray])
    refine' wpList_build4 rfl rfl rfl rfl rfl rfl (build_n4 _ _ _ _) ?_
    simp only [Act.put, kA, kB, List.setIfInBounds_toArray]
    go_wp2_with (first | (refine' xAe hR rfl rfl rfl ?_; clear hR; intro blk w hR) | (refine' xAb hR rfl rfl inferInstance ?_; clear hR; intro blk w hR) | (refine' xAc hR rfl rfl rfl inferInstance ?hm ?hn ?_; (case hm => first | with_reducible assumption | repeat (first | exact .head _ | with_reducible assumption | apply mC)); (case hn => first | rfl | simp)) | (refine' xAd hR rfl rfl rfl inferInstance ?hm ?hv ?hn ?_; (case hm => first | with_reducible assumption | repeat (first | exact .head _ | with_reducible assumption | apply mC)); (case hv => first | with_reducible assumption | (simp only [kC, kD, kE, kF]; try rfl)); (case hn => first | rfl | simp)) | (refine' xBg hR rfl rfl rfl inferInstance ?hm ?hv ?_; (case hm => first | with_reducible assumption | repeat (first | exact .head _ | with_reducible assumption | apply mC)); (case hv => first | rfl | with_reducible assumption)) | (refine' xAa hR rfl rfl rfl inferInstance rfl ?hs ?zone ?zvn ?hn ?_; (case hs => repeat (first | exact xAf.head | apply xAf.tail)); (case zone => first | rfl | with_reducible assumption); (case zvn => first | rfl | simp); (case hn => first | rfl | simp); clear hR; intro w hR) | (refine' xBe hR rfl rfl rfl inferInstance rfl rfl ?hs ?hn ?hl ?_; (case hs => repeat (first | exact xAf.head | apply xAf.tail)); (case hn => first | exact oD rfl | (show _ < 4; with_reducible assumption) | (simp; try omega)); (case hl => first | with_reducible assumption | (simp only [nl, kA, kB]; first | done | rfl) | rfl); clear hR; intro w hR) | fail)
    refine wp_loop_rounds 5 ?_
    repeat (
      rw [rounds_succ]
      go_wp2_with (first | go_skip | (refine' xAe hR rfl rfl rfl ?_; clear hR; intro blk w hR) | (refine' xAb hR rfl rfl inferInstance ?_; clear hR; intro blk w hR) | (refine' xAc hR rfl rfl rfl inferInstance ?hm ?hn ?_; (case hm => first | with_reducible assumption | repeat (first | exact .head _ | with_reducible assumption | apply mC)); (case hn => first | rfl | simp)) | (refine' xAd hR rfl rfl rfl inferInstance ?hm ?hv ?hn ?_; (case hm => first | with_reducible assumption | repeat (first | exact .head _ | with_reducible assumption | apply mC)); (case hv => first | with_reducible assumption | (simp only [kC, kD, kE, kF]; try rfl)); (case hn => first | rfl | simp)) | (refine' xBg hR rfl rfl rfl inferInstance ?hm ?hv ?_; (case hm => first | with_reducible assumption | repeat (first | exact .head _ | with_reducible assumption | apply mC)); (case hv => first | rfl | with_reducible assumption)) | (refine' xAa hR rfl rfl rfl inferInstance rfl ?hs ?zone ?zvn ?hn ?_; (case hs => repeat (first | exact xAf.head | apply xAf.tail)); (case zone => first | rfl | with_reducible assumption); (case zvn => first | rfl | simp); (case hn => first | rfl | simp); clear hR; intro w hR) | (refine' xBe hR rfl rfl rfl inferInstance rfl rfl ?hs ?hn ?hl ?_; (case hs => repeat (first | exact xAf.head | apply xAf.tail)); (case hn => first | exact oD rfl | (show _ < 4; with_reducible assumption) | (simp; try omega)); (case hl => first | with_reducible assumption | (simp only [nl, kA, kB]; first | done | rfl) | rfl); clear hR; intro w hR) | (refine' xAg hR rfl rfl rfl inferInstance ?hm ?hn ?_; (case hm => first | with_reducible assumption | repeat (first | exact .head _ | with_reducible assumption | apply mC)); (case hn => first | rfl | simp)) | (refine' xBf hR rfl rfl rfl inferInstance ?hm ?hv ?_; (case hm => first | with_reducible assumption | repeat (first | exact .head _ | with_reducible assumption | apply mC)); (case hv => first | rfl | with_reducible assumption)) | (refine' xAp hR rfl rfl rfl inferInstance ?hm ?hv ?hn ?_; (case hm => first | with_reducible assumption | repeat (first | exact .head _ | with_reducible assumption | apply mC)); (case hv => first | with_reducible assumption | (simp only [kC, kD, kE, kF]; try rfl)); (case hn => first | rfl | simp)) | (go_at_call 18; refine (i0 _).mono ?_; rintro e w ⟨rfl, hb⟩; replace hR := hR.call hb; clear hb) | (go_at_call 18; refine (i1 _).mono ?_; rintro e w ⟨rfl, hb⟩; replace hR := hR.call hb; clear hb) | (go_at_call 18; refine (i2 _).mono ?_; rintro e w ⟨rfl, hb⟩; replace hR := hR.call hb; clear hb) | (go_at_call 18; refine (i3 _).mono ?_; rintro e w ⟨rfl, hb⟩; replace hR := hR.call hb; clear hb) | (go_at_call 50; refine (f1 _).mono ?_; rintro e w ⟨rfl, hb⟩; replace hR := hR.call hb; clear hb) | (go_at_call 50; refine (f2 _).mono ?_; rintro e w ⟨rfl, hb⟩; replace hR := hR.call hb; clear hb)))
    go_ret
    exact ⟨rfl, hR.below⟩
end
end Go.Proofs.Ythbcgcncoggagaa
namespace Go.Proofs.Ythbcgcncoggagaa
open Go.RowKit
attribute [local irreducible] Calls Instr.build Instr.buildSlice
section
variable {p q g h base a y b c S : Nat} {s : ByteArray}
set_option maxRecDepth 100000 in
set_option maxHeartbeats 16000000 in
theorem pchk_late {res : Bool} (hp : p < B) (hq : q < B) (hb : base < B) (ha : a < B) (hy : y < B) (hb' : b < B) (hc : c < B) (hS : S < B) (hs : s.size ≤ 100000) (hin : inG p q base ∧ inG p q a ∧ inG p q y ∧ inG p q b) (h2 : 1 < q ∧ c < q) (h3 : 1 < q ∧ S < q) (hres : res = true ↔ chalP s [base, a, y, b, meetN p q base S a c, meetN p q y S b c] q = c) (w : World) : Calls Try.prog 17 #[grp p q g h, .string s, num base, num a, num y, num b, prfV c S] w fun e' w' =>
    e' = .returned (.bool res) ∧ Below w.heap.size w w' := by
  have tc : ((nl2 c S).drop 0).take 4 = nl c := rfl
  have ts : ((nl2 c S).drop 4).take 4 = nl S := rfl
  have i0 := xCy (g := g) (h := h) (s := true) hp hq hb ⟨fun _ => hin.1, fun _ => rfl⟩
  have i1 := xCy (g := g) (h := h) (s := true) hp hq ha ⟨fun _ => hin.2.1, fun _ => rfl⟩
  have i2 := xCy (g := g) (h := h) (s := true) hp hq hy ⟨fun _ => hin.2.2.1, fun _ => rfl⟩
  have i3 := xCy (g := g) (h := h) (s := true) hp hq hb' ⟨fun _ => hin.2.2.2, fun _ => rfl⟩
  have f1 := fexp_lit (p := p) (g := g) (h := h) (s := s) (b := true) hq hc (decide_eq_true h2)
  have f2 := fexp_lit (p := p) (g := g) (h := h) (s := s) (b := true) hq hS (decide_eq_true h3)
  obtain ⟨n0, h0⟩ : ∃ n, n = 0 := ⟨_, rfl⟩
  have L0 : n0 < B := lt_B (by omega)
  unfold meetN at hres
  obtain ⟨bk', hbk⟩ : ∃ x, subN 0 c q = x := ⟨_, rfl⟩
  have lb : bk' < q := by rw [← hbk, subN_def]; exact Nat.mod_lt _ (by omega)
  have lB : bk' < B := by omega
  have sb := ssub_lit (p := p) (g := g) (h := h) (e := 0) (r := bk') L0 hc hq (by rw [h0, if_pos ⟨h2.1, by omega, h2.2⟩, hbk]) (by rw [h0]; exact if_pos ⟨h2.1, by omega, h2.2⟩)
  rw [show num n0 = Value.agg #[.int .u64 0, .int .u64 0, .int .u64 0, .int .u64 0] by rw [h0]; exact num_zero.symm] at sb
  rw [hbk] at hres
  obtain ⟨r1, e1⟩ : ∃ r, mulN (powN base S p) (powN a bk' p) p = r := ⟨_, rfl⟩
  obtain ⟨r2, e2⟩ : ∃ r, mulN (powN y S p) (powN b bk' p) p = r := ⟨_, rfl⟩
  rw [e1, e2] at hres
  have mm1 := fmeet_lit (g := g) (h := h) (s := s) (r := r1) hp hq hin.1.1.1 hb hS ha lB (by rw [if_pos ⟨hin.1.1, hin.2.1.1⟩, e1])
  have mm2 := fmeet_lit (g := g) (h := h) (s := s) (r := r2) hp hq hin.1.1.1 hy hS hb' lB (by rw [if_pos ⟨hin.2.2.1.1, hin.2.2.2.1⟩, e2])
  obtain ⟨x, hx⟩ : ∃ c, chalP s [base, a, y, b, r1, r2] q = c := ⟨_, rfl⟩
  have lx : x < q := by rw [← hx]; exact chalP_lt (by omega) _ _
  rw [hx] at hres
  have cc := fun (nb : Nat) (M : List (Nat × Obj)) (hm : (nb, Obj.cells (nl6 base a y b r1 r2).toArray 24) ∈ M) (w' : World) (hR : Rep w.heap.size w M w') => fchal_any (p := p) (g := g) (h := h) hq hs hx hm hR
  have es : eqN x c = res := by
    by_cases he : x = c
    · rw [eqN_yes he]; exact (hres.2 he).symm
    · rw [eqN_no (by omega) hc he]
      cases res
      · rfl
      · exact absurd (hres.1 rfl) he
  clear hres hin h2 h3 h0 L0 hbk lb lB e1 e2 hx lx hs
  replace cc := Held.mk cc
  obtain ⟨W, hW⟩ : ∃ x, x = w := ⟨_, rfl⟩
  subst hW
  have hR := Rep.init W
  go_enter Try.func17, Try.ntmps17
  go_upto_region 2 with (first | (refine' xAe hR rfl rfl rfl ?_; clear hR; intro blk w hR) | (refine' xAb hR rfl rfl inferInstance ?_; clear hR; intro blk w hR) | (refine' xAc hR rfl rfl rfl inferInstance ?hm ?hn ?_; (case hm => first | with_reducible assumption | repeat (first | exact .head _ | with_reducible assumption | apply mC)); (case hn => first | rfl | simp)) | (refine' xAd hR rfl rfl rfl inferInstance ?hm ?hv ?hn ?_; (case hm => first | with_reducible assumption | repeat (first | exact .head _ | with_reducible assumption | apply mC)); (case hv => first | with_reducible assumption | (simp only [kC, kD, kE, kF]; try rfl)); (case hn => first | rfl | simp)) | (refine' xBg hR rfl rfl rfl inferInstance ?hm ?hv ?_; (case hm => first | with_reducible assumption | repeat (first | exact .head _ | with_reducible assumption | apply mC)); (case hv => first | rfl | with_reducible assumption)) | (refine' xAa hR rfl rfl rfl inferInstance rfl ?hs ?zone ?zvn ?hn ?_; (case hs => repeat (first | exact xAf.head | apply xAf.tail)); (case zone => first | rfl | with_reducible assumption); (case zvn => first | rfl | simp); (case hn => first | rfl | simp); clear hR; intro w hR) | (refine' xBe hR rfl rfl rfl inferInstance rfl rfl ?hs ?hn ?hl ?_; (case hs => repeat (first | exact xAf.head | apply xAf.tail)); (case hn => first | exact oD rfl | (show _ < 4; with_reducible assumption) | (simp; try omega)); (case hl => first | with_reducible assumption | (simp only [nl, kA, kB]; first | done | rfl) | rfl); clear hR; intro w hR) | (refine' xCf (t := 84) rfl rfl ?hrun ?_; (case hrun => simp only [List.map_toArray, List.map_cons, List.map_nil]; exact build_fld _ _ _ _ _ _)))
  refine wp_region_lit ?_
  simp only [Act.put, kA, kB, List.setIfInBounds_toArray]
  iterate 4 (refine' xAc hR rfl rfl rfl inferInstance ?hm ?hn ?_; (case hm => repeat (first | exact .head _ | apply mC)); (case hn => rfl); simp only [Act.put, kA, kB, List.setIfInBounds_toArray])
  refine' wpList_build4 rfl rfl rfl rfl rfl rfl (build_n4 _ _ _ _) ?_
  simp only [Act.put, kA, kB, List.setIfInBounds_toArray]
  go_wp2_with (first | (refine' xAe hR rfl rfl rfl ?_; clear hR; intro blk w hR) | (refine' xAb hR rfl rfl inferInstance ?_; clear hR; intro blk w hR) | (refine' xAc hR rfl rfl rfl inferInstance ?hm ?hn ?_; (case hm => first | with_reducible assumption | repeat (first | exact .head _ | with_reducible assumption | apply mC)); (case hn => first | rfl | simp)) | (refine' xAd hR rfl rfl rfl inferInstance ?hm ?hv ?hn ?_; (case hm => first | with_reducible assumption | repeat (first | exact .head _ | with_reducible assumption | apply mC)); (case hv => first | with_reducible assumption | (simp only [kC, kD, kE, kF]; try rfl)); (case hn => first | rfl | simp)) | (refine' xBg hR rfl rfl rfl inferInstance ?hm ?hv ?_; (case hm => first | with_reducible assumption | repeat (first | exact .head _ | with_reducible assumption | apply mC)); (case hv => first | rfl | with_reducible assumption)) | (refine' xAa hR rfl rfl rfl inferInstance rfl ?hs ?zone ?zvn ?hn ?_; (case hs => repeat (first | exact xAf.head | apply xAf.tail)); (case zone => first | rfl | with_reducible assumption); (case zvn => first | rfl | simp); (case hn => first | rfl | simp); clear hR; intro w hR) | (refine' xBe hR rfl rfl rfl inferInstance rfl rfl ?hs ?hn ?hl ?_; (case hs => repeat (first | exact xAf.head | apply xAf.tail)); (case hn => first | exact oD rfl | (show _ < 4; with_reducible assumption) | (simp; try omega)); (case hl => first | with_reducible assumption | (simp only [nl, kA, kB]; first | done | rfl) | rfl); clear hR; intro w hR) | fail)
  refine wp_loop_rounds 5 ?_
  iterate 4 (
    rw [rounds_succ]
    go_wp2_with (first | (refine' xAe hR rfl rfl rfl ?_; clear hR; intro blk w hR) | (refine' xAb hR rfl rfl inferInstance ?_; clear hR; intro blk w hR) | (refine' xAc hR rfl rfl rfl inferInstance ?hm ?hn ?_; (case hm => first | with_reducible assumption | repeat (first | exact .head _ | with_reducible assumption | apply mC)); (case hn => first | rfl | simp)) | (refine' xAd hR rfl rfl rfl inferInstance ?hm ?hv ?hn ?_; (case hm => first | with_reducible assumption | repeat (first | exact .head _ | with_reducible assumption | apply mC)); (case hv => first | with_reducible assumption | (simp only [kC, kD, kE, kF]; try rfl)); (case hn => first | rfl | simp)) | (refine' xBg hR rfl rfl rfl inferInstance ?hm ?hv ?_; (case hm => first | with_reducible assumption | repeat (first | exact .head _ | with_reducible assumption | apply mC)); (case hv => first | rfl | with_reducible assumption)) | (refine' xAa hR rfl rfl rfl inferInstance rfl ?hs ?zone ?zvn ?hn ?_; (case hs => repeat (first | exact xAf.head | apply xAf.tail)); (case zone => first | rfl | with_reducible assumption); (case zvn => first | rfl | simp); (case hn => first | rfl | simp); clear hR; intro w hR) | (refine' xBe hR rfl rfl rfl inferInstance rfl rfl ?hs ?hn ?hl ?_; (case hs => repeat (first | exact xAf.head | apply xAf.tail)); (case hn => first | exact oD rfl | (show _ < 4; with_reducible assumption) | (simp; try omega)); (case hl => first | with_reducible assumption | (simp only [nl, kA, kB]; first | done | rfl) | rfl); clear hR; intro w hR) | (go_at_call 18; refine (i0 _).mono ?_; rintro e w ⟨rfl, hb⟩; replace hR := hR.call hb; clear hb) | (go_at_call 18; refine (i1 _).mono ?_; rintro e w ⟨rfl, hb⟩; replace hR := hR.call hb; clear hb) | (go_at_call 18; refine (i2 _).mono ?_; rintro e w ⟨rfl, hb⟩; replace hR := hR.call hb; clear hb) | (go_at_call 18; refine (i3 _).mono ?_; rintro e w ⟨rfl, hb⟩; replace hR := hR.call hb; clear hb)))
  rw [rounds_succ]
  go_wp2_with (first | go_skip | (refine' xAe hR rfl rfl rfl ?_; clear hR; intro blk w hR) | (refine' xAb hR rfl rfl inferInstance ?_; clear hR; intro blk w hR) | (refine' xAc hR rfl rfl rfl inferInstance ?hm ?hn ?_; (case hm => first | with_reducible assumption | repeat (first | exact .head _ | with_reducible assumption | apply mC)); (case hn => first | rfl | simp)) | (refine' xAd hR rfl rfl rfl inferInstance ?hm ?hv ?hn ?_; (case hm => first | with_reducible assumption | repeat (first | exact .head _ | with_reducible assumption | apply mC)); (case hv => first | with_reducible assumption | (simp only [kC, kD, kE, kF]; try rfl)); (case hn => first | rfl | simp)) | (refine' xBg hR rfl rfl rfl inferInstance ?hm ?hv ?_; (case hm => first | with_reducible assumption | repeat (first | exact .head _ | with_reducible assumption | apply mC)); (case hv => first | rfl | with_reducible assumption)) | (refine' xAa hR rfl rfl rfl inferInstance rfl ?hs ?zone ?zvn ?hn ?_; (case hs => repeat (first | exact xAf.head | apply xAf.tail)); (case zone => first | rfl | with_reducible assumption); (case zvn => first | rfl | simp); (case hn => first | rfl | simp); clear hR; intro w hR) | (refine' xBe hR rfl rfl rfl inferInstance rfl rfl ?hs ?hn ?hl ?_; (case hs => repeat (first | exact xAf.head | apply xAf.tail)); (case hn => first | exact oD rfl | (show _ < 4; with_reducible assumption) | (simp; try omega)); (case hl => first | with_reducible assumption | (simp only [nl, kA, kB]; first | done | rfl) | rfl); clear hR; intro w hR) | (refine' xAg hR rfl rfl rfl inferInstance ?hm ?hn ?_; (case hm => first | with_reducible assumption | repeat (first | exact .head _ | with_reducible assumption | apply mC)); (case hn => first | rfl | simp)) | (refine' xBf hR rfl rfl rfl inferInstance ?hm ?hv ?_; (case hm => first | with_reducible assumption | repeat (first | exact .head _ | with_reducible assumption | apply mC)); (case hv => first | rfl | with_reducible assumption)) | (refine' xAp hR rfl rfl rfl inferInstance ?hm ?hv ?hn ?_; (case hm => first | with_reducible assumption | repeat (first | exact .head _ | with_reducible assumption | apply mC)); (case hv => first | with_reducible assumption | (simp only [kC, kD, kE, kF]; try rfl)); (case hn => first | rfl | simp)) | (go_at_call 50; refine (f1 _).mono ?_; rintro e w ⟨rfl, hb⟩; replace hR := hR.call hb; clear hb) | (go_at_call 50; refine (f2 _).mono ?_; rintro e w ⟨rfl, hb⟩; replace hR := hR.call hb; clear hb) | (go_at_call 55; refine (sb _).mono ?_; rintro e w ⟨rfl, hb⟩; replace hR := hR.call hb; clear hb))
  rename_i bg u1 bb u2 ba u3 by1 u4 bb2 u5 bp u6 bf u7 u8 K2 v3 u9 u10 u11 v2 u12 u13 u14 v1 u15 u16 u17 v0 u18 u19 u20 K1 a1 u21 u22 u23 u24 K0 kz
  obtain ⟨bk, hbk⟩ : ∃ x, x = blk := ⟨_, rfl⟩
  subst hbk
  refine wp_region_F hR 25 mixed rfl ?_
  clear hR
  refine fHeads [(bf, Obj.cells (fl p q g h s).toArray 84), (bb, Obj.cells (nl base).toArray 24), (ba, Obj.cells (nl a).toArray 24), (by1, Obj.cells (nl y).toArray 24), (bb2, Obj.cells (nl b).toArray 24), (bp, Obj.cells (nl2 c S).toArray 28), (bk, Obj.cells (nl bk').toArray 24)] [1, 1, 1, 1, 1, 1, 1, 1, 1, 1, 1, 1, 1, 1, 1, 1, 1, 1, 1, 2, 2, 1, 1, 2, 2] 4 rfl (by repeat (first | exact xCq | refine xCe (by repeat (first | exact .head _ | with_reducible assumption | apply mC)) ?_)) (by repeat (first | exact xCq | refine xCe (by repeat (first | exact .head _ | with_reducible assumption | apply mC)) ?_)) rfl (by decide +kernel) (fun K hK => ?_)
  repeat ((first | (refine' hd_keepAll rfl rfl rfl inferInstance ?hm ?hn ?ha ?_; (case hm => first | with_reducible assumption | repeat (first | exact .head _ | apply mC)); (case hn => first | rfl | simp)) | (refine' hd_callK rfl rfl rfl (xBn Try.func56 (by kernel_rfl) (by kernel_rfl) _) (fun L' w hL hw => (mm1 w).mono fun e w' hh => ⟨hh.1, hw.call hh.2⟩) ?ha ?_) | (refine' hd_callK rfl rfl rfl (xBn Try.func56 (by kernel_rfl) (by kernel_rfl) _) (fun L' w hL hw => (mm2 w).mono fun e w' hh => ⟨hh.1, hw.call hh.2⟩) ?ha ?_) | (refine xBq ?_) | (refine' xAx (by decide) rfl (.inl rfl) rfl ?ha ?_) | (refine' xAx (by decide) rfl (.inr rfl) rfl ?ha ?_) | (refine' xAt rfl rfl rfl inferInstance ?hm ?hn ?ha ?_; (case hm => first | with_reducible assumption | repeat (first | exact .head _ | with_reducible assumption | apply mC)); (case hn => first | rfl | simp)) | (refine' xAr rfl rfl rfl inferInstance ?hm ?hv ?hn ?ha ?_; (case hm => first | with_reducible assumption | repeat (first | exact .head _ | with_reducible assumption | apply mC)); (case hv => first | with_reducible assumption | (simp only [kC, kD, kE, kF]; try rfl)); (case hn => first | rfl | simp)) | (refine' xAk rfl rfl rfl inferInstance ?hm ?hv ?ha ?_; (case hm => first | with_reducible assumption | repeat (first | exact .head _ | with_reducible assumption | apply mC)); (case hv => first | rfl | with_reducible assumption)) | (refine' xAq rfl rfl rfl inferInstance ?hm ?hv ?hn ?ha ?_; (case hm => first | with_reducible assumption | repeat (first | exact .head _ | with_reducible assumption | apply mC)); (case hv => first | with_reducible assumption | (simp only [kC, kD, kE, kF]; try rfl)); (case hn => first | rfl | simp)) | (refine' xAm rfl rfl rfl inferInstance ?hm ?hv ?ha ?_; (case hm => first | with_reducible assumption | repeat (first | exact .head _ | with_reducible assumption | apply mC)); (case hv => first | rfl | with_reducible assumption)) | ((first | refine' xAi (by decide) rfl rfl rfl rfl (fun w => ?hq) ?ha ?_ | refine' xBk (by decide) rfl rfl rfl rfl (fun w => ?hq) ?ha ?_ | refine' xAw (by decide) rfl rfl rfl (fun w => ?hq) ?ha ?_ | refine' xAh (by decide) rfl rfl rfl (fun w => ?hq) ?ha ?_ | refine' xAu (by decide) rfl rfl rfl (fun w => ?hq) ?ha ?_ | refine' xBl (by decide) rfl rfl rfl rfl (fun w => ?hq) ?ha ?_ | refine' xBj (by decide) rfl rfl rfl rfl rfl rfl (fun w => ?hq) ?ha ?_ | refine' xBm (by decide) rfl rfl (fun w => ?hq) ?ha ?_ | refine' xAv (by decide) rfl rfl rfl (fun w => ?hq) ?ha ?_ | refine' xBi (by decide) rfl rfl rfl (fun w => ?hq) ?ha ?_); (case hq => go_simp; try rfl)) | (refine' xAl (by decide) rfl rfl rfl ?ha ?_) | (refine' xBp (by decide) rfl rfl rfl rfl ?ha ?_) | (refine' xBr (by decide) rfl ?ha ?_)); try (case ha => simp only [kP, kQ, kA, kB]; try rfl))
  refine xCa (hK _ _ ?_)
  clear hK K
  refine f_at [19] (by decide +kernel) rfl ?_
  refine f_is 19 ?_
  refine f_new rfl rfl (isNew_six rfl rfl rfl rfl rfl rfl rfl rfl) (by repeat (first | exact xCq | refine xCe (by repeat (first | exact .head _ | with_reducible assumption | apply mC)) ?_)) (fun nb => ?_) ?_
  case refine_2 => exact f_nil
  try simp only [Act.put, kA, kB, List.setIfInBounds_toArray]
  refine f_at [20] (by decide +kernel) rfl ?_
  refine f_is 20 ?_
  refine f_y rfl rfl (yields_call rfl rfl rfl (xBn Try.func52 (by kernel_rfl) (by kernel_rfl) _) (fun w hw => cc.out _ _ (by repeat (first | exact .head _ | with_reducible assumption | apply mC)) w hw)) (by repeat (first | exact xCq | refine xCe (by repeat (first | exact .head _ | with_reducible assumption | apply mC)) ?_)) ?_ ?_
  case refine_2 => exact f_nil
  try simp only [Act.put, kA, kB, List.setIfInBounds_toArray]
  refine fHeads [(bf, Obj.cells (fl p q g h s).toArray 84), (bb, Obj.cells (nl base).toArray 24), (ba, Obj.cells (nl a).toArray 24), (by1, Obj.cells (nl y).toArray 24), (bb2, Obj.cells (nl b).toArray 24), (bp, Obj.cells (nl2 c S).toArray 28), (bk, Obj.cells (nl bk').toArray 24)] [2, 2, 2, 2, 2, 2, 2, 2, 2, 2, 2, 2, 2, 2, 2, 2, 2, 2, 2, 2, 2, 2, 2, 1, 2] 1 rfl (by repeat (first | exact xCq | refine xCe (by repeat (first | exact .head _ | with_reducible assumption | apply mC)) ?_)) (by repeat (first | exact xCq | refine xCe (by repeat (first | exact .head _ | with_reducible assumption | apply mC)) ?_)) rfl (by decide +kernel) (fun K hK => ?_)
  repeat ((first | (refine' hd_keepAll rfl rfl rfl inferInstance ?hm ?hn ?ha ?_; (case hm => first | with_reducible assumption | repeat (first | exact .head _ | apply mC)); (case hn => first | rfl | simp)) | (refine xBq ?_) | (refine' xAx (by decide) rfl (.inl rfl) rfl ?ha ?_) | (refine' xAx (by decide) rfl (.inr rfl) rfl ?ha ?_) | (refine' xAt rfl rfl rfl inferInstance ?hm ?hn ?ha ?_; (case hm => first | with_reducible assumption | repeat (first | exact .head _ | with_reducible assumption | apply mC)); (case hn => first | rfl | simp)) | (refine' xAr rfl rfl rfl inferInstance ?hm ?hv ?hn ?ha ?_; (case hm => first | with_reducible assumption | repeat (first | exact .head _ | with_reducible assumption | apply mC)); (case hv => first | with_reducible assumption | (simp only [kC, kD, kE, kF]; try rfl)); (case hn => first | rfl | simp)) | (refine' xAk rfl rfl rfl inferInstance ?hm ?hv ?ha ?_; (case hm => first | with_reducible assumption | repeat (first | exact .head _ | with_reducible assumption | apply mC)); (case hv => first | rfl | with_reducible assumption)) | (refine' xAq rfl rfl rfl inferInstance ?hm ?hv ?hn ?ha ?_; (case hm => first | with_reducible assumption | repeat (first | exact .head _ | with_reducible assumption | apply mC)); (case hv => first | with_reducible assumption | (simp only [kC, kD, kE, kF]; try rfl)); (case hn => first | rfl | simp)) | (refine' xAm rfl rfl rfl inferInstance ?hm ?hv ?ha ?_; (case hm => first | with_reducible assumption | repeat (first | exact .head _ | with_reducible assumption | apply mC)); (case hv => first | rfl | with_reducible assumption)) | ((first | refine' xAi (by decide) rfl rfl rfl rfl (fun w => ?hq) ?ha ?_ | refine' xBk (by decide) rfl rfl rfl rfl (fun w => ?hq) ?ha ?_ | refine' xAw (by decide) rfl rfl rfl (fun w => ?hq) ?ha ?_ | refine' xAh (by decide) rfl rfl rfl (fun w => ?hq) ?ha ?_ | refine' xAu (by decide) rfl rfl rfl (fun w => ?hq) ?ha ?_ | refine' xBl (by decide) rfl rfl rfl rfl (fun w => ?hq) ?ha ?_ | refine' xBj (by decide) rfl rfl rfl rfl rfl rfl (fun w => ?hq) ?ha ?_ | refine' xBm (by decide) rfl rfl (fun w => ?hq) ?ha ?_ | refine' xAv (by decide) rfl rfl rfl (fun w => ?hq) ?ha ?_ | refine' xBi (by decide) rfl rfl rfl (fun w => ?hq) ?ha ?_); (case hq => go_simp; try rfl)) | (refine' xAl (by decide) rfl rfl rfl ?ha ?_) | (refine' xBp (by decide) rfl rfl rfl rfl ?ha ?_) | (refine' xBr (by decide) rfl ?ha ?_)); try (case ha => simp only [kP, kQ, kA, kB]; try rfl))
  refine xCa (hK _ _ ?_)
  clear hK K
  refine f_at [24] (by decide +kernel) rfl ?_
  refine f_is 24 ?_
  refine f_y rfl rfl (yields_move rfl rfl rfl) (by repeat (first | exact xCq | refine xCe (by repeat (first | exact .head _ | with_reducible assumption | apply mC)) ?_)) ?_ ?_
  case refine_2 => exact f_nil
  try simp only [Act.put, kA, kB, List.setIfInBounds_toArray]
  refine f_end (by decide +kernel) (fun w hR => ?_)
  simp only [Exit.then]
  refine kz _ _ ?_
  clear kz
  go_wp2_with (first | (refine' xAe hR rfl rfl rfl ?_; clear hR; intro blk w hR) | (refine' xAb hR rfl rfl inferInstance ?_; clear hR; intro blk w hR) | (refine' xAc hR rfl rfl rfl inferInstance ?hm ?hn ?_; (case hm => first | with_reducible assumption | repeat (first | exact .head _ | with_reducible assumption | apply mC)); (case hn => first | rfl | simp)) | (refine' xAd hR rfl rfl rfl inferInstance ?hm ?hv ?hn ?_; (case hm => first | with_reducible assumption | repeat (first | exact .head _ | with_reducible assumption | apply mC)); (case hv => first | with_reducible assumption | (simp only [kC, kD, kE, kF]; try rfl)); (case hn => first | rfl | simp)) | (refine' xBg hR rfl rfl rfl inferInstance ?hm ?hv ?_; (case hm => first | with_reducible assumption | repeat (first | exact .head _ | with_reducible assumption | apply mC)); (case hv => first | rfl | with_reducible assumption)) | (refine' xAa hR rfl rfl rfl inferInstance rfl ?hs ?zone ?zvn ?hn ?_; (case hs => repeat (first | exact xAf.head | apply xAf.tail)); (case zone => first | rfl | with_reducible assumption); (case zvn => first | rfl | simp); (case hn => first | rfl | simp); clear hR; intro w hR) | (refine' xBe hR rfl rfl rfl inferInstance rfl rfl ?hs ?hn ?hl ?_; (case hs => repeat (first | exact xAf.head | apply xAf.tail)); (case hn => first | exact oD rfl | (show _ < 4; with_reducible assumption) | (simp; try omega)); (case hl => first | with_reducible assumption | (simp only [nl, kA, kB]; first | done | rfl) | rfl); clear hR; intro w hR) | fail)
  go_ret
  exact ⟨rfl, hR.below⟩
theorem pchk_lit {res : Bool} (hp : p < B) (hq : q < B) (hb : base < B) (ha : a < B) (hy : y < B) (hb' : b < B) (hc : c < B) (hS : S < B) (hs : s.size ≤ 100000) (hres : res = true ↔ pchkOk p q s base a y b c S) (w : World) : Calls Try.prog 17 #[grp p q g h, .string s, num base, num a, num y, num b, prfV c S] w fun e' w' =>
    e' = .returned (.bool res) ∧ Below w.heap.size w w' := by
  classical
  by_cases h' : (inG p q base ∧ inG p q a ∧ inG p q y ∧ inG p q b) ∧ (1 < q ∧ c < q) ∧ (1 < q ∧ S < q)
  · obtain ⟨h1, h2, h3⟩ := h'
    exact pchk_late hp hq hb ha hy hb' hc hS hs h1 h2 h3 ⟨fun h => (hres.1 h).2.2.2, fun h => hres.2 ⟨h1, h2, h3, h⟩⟩ w
  · obtain rfl : res = false := by
      cases res
      · rfl
      · exact absurd ⟨(hres.1 rfl).1, (hres.1 rfl).2.1, (hres.1 rfl).2.2.1⟩ h'
    exact pchk_early hp hq hb ha hy hb' hc hS h' w
end
end Go.Proofs.Ythbcgcncoggagaa
