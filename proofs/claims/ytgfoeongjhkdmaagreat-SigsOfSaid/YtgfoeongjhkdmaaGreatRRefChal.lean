/- The contract of balefireref13.challenge. -/
import Derived.Test.YtgfoeongjhkdmaaGreatRRL
import Derived.Test.YtgfoeongjhkdmaaGreatRZ
set_option linter.unusedVariables false
set_option linter.unusedSimpArgs false
namespace Go.Proofs.YtgfoeongjhkdmaaGreat
open Go.RowKit
attribute [local irreducible] Calls Instr.build Instr.buildSlice
section
variable {p q g h key r c : Nat} {H : Nat → Nat}
set_option maxRecDepth 100000 in
set_option maxHeartbeats 8000000 in
theorem rchal_any (hq : q < B) (hc : chalN key r H q = c) (hH : ∀ i, H i < 256) (w : World) : Calls Tryz.prog 16 #[grp p q g h, num key, num r, .agg (u8s 32 H).toArray] w fun e' w' =>
    e' = .returned (num c) ∧ Below w.heap.size w w' := by
  have tq := gl_q p q g h
  rw [chalN_def] at hc
  obtain ⟨W, hW⟩ : ∃ x, x = w := ⟨_, rfl⟩
  subst hW
  have cn := fun (b5 : Nat) (M : List (Nat × Obj)) (rb g1 g2 cap1 cap2 : Nat) (cur1 cur2 : List Value) (o1 : OwnOk cap1 cur1 (plN key)) (o2 : OwnOk cap2 cur2 (plN r)) (hr : (rb, Obj.cells [Value.slice (some ⟨g1, 0, none⟩) 32 cap1, .slice (some ⟨g2, 0, none⟩) 32 cap2, .slice (some ⟨b5, 0, none⟩) 32 32].toArray 49) ∈ M) (h1 : (g1, Obj.cells cur1.toArray 5) ∈ M) (h2 : (g2, Obj.cells cur2.toArray 5) ∈ M) (h3 : (b5, Obj.cells (u8s 32 H).toArray 28) ∈ M) (w : World) (hR : Rep W.heap.size W M w) =>
    ref6_number q ⟨#[115, 105, 103, 110]⟩ (.slice (some ⟨rb, 0, none⟩) 3 3) [plN key, plN r, b32 H] hq (by decide) (by show 3 < 1000; decide) (by
      show ([plN key, plN r, b32 H].map List.length).sum < 1000000
      simp only [List.map_cons, List.map_nil, xCk, xCl, List.sum_cons, List.sum_nil]
      decide) (rows_three_at (xCk _) (xCk _) o1 o2 hH hr h1 h2 h3 hR) hR
  rw [hc] at cn
  obtain ⟨er, her⟩ : ∃ e : Int, (if q = 0 then 1 else 0) = e := ⟨_, rfl⟩
  rw [her] at cn
  replace cn := Held.mk cn
  have hone := u8s_one 32 H
  clear her hc hH
  have hR := Rep.init W
  go_enter Tryz.func16, Tryz.ntmps16
  go_wp2_with (first | (refine' xAb hR rfl rfl rfl ?_; clear hR; intro blk w hR) | (refine' xAa hR rfl rfl inferInstance ?_; clear hR; intro blk w hR) | (refine' aFq hR rfl rfl rfl inferInstance ?_) | (refine' aGq hR rfl rfl rfl inferInstance ?_) | (refine' aHq hR rfl rfl rfl inferInstance ?_) | (refine' aDq hR rfl rfl rfl inferInstance rfl ?_; clear hR; intro w hR) | (refine' aEq hR rfl rfl rfl inferInstance rfl rfl ?_; clear hR; intro w hR) | fail)
  rename_i K0 kz
  obtain ⟨b6', hb6⟩ : ∃ x, x = blk := ⟨_, rfl⟩
  subst hb6
  obtain ⟨b5, hb5⟩ : ∃ x, x = blk := ⟨_, rfl⟩
  subst hb5
  obtain ⟨b0, hb0⟩ : ∃ x, x = blk := ⟨_, rfl⟩
  subst hb0
  obtain ⟨b4, hb4⟩ : ∃ x, x = blk := ⟨_, rfl⟩
  subst hb4
  obtain ⟨b3, hb3⟩ : ∃ x, x = blk := ⟨_, rfl⟩
  subst hb3
  simp only [kP, kQ, kA, kB]
  refine wp_region_F hR 15 xCt rfl ?_
  clear hR
  refine fHeads [(b3, Obj.cells (gl p q g h).toArray 26), (b4, Obj.cells (nl key).toArray 24), (b5, Obj.cells (u8s 32 H).toArray 28), (b0, Obj.cells (nl r).toArray 24)] [1, 1, 1, 2, 1, 2, 1, 2, 2, 2, 2, 2, 2, 2, 2] 10 rfl (by repeat (first | exact xBu | refine xBn (by repeat (first | exact .head _ | with_reducible assumption | apply mC)) ?_)) (by repeat (first | exact xBu | refine xBn (by repeat (first | exact .head _ | with_reducible assumption | apply mC)) ?_)) rfl (by decide +kernel) (fun K hK => ?_)
  repeat ((first | (refine xBj ?_) | (refine' xAs (by decide) rfl (.inl rfl) rfl ?ha ?_) | (refine' xAs (by decide) rfl (.inr rfl) rfl ?ha ?_) | (refine' xAr rfl rfl rfl inferInstance ?hm ?hn ?ha ?_; (case hm => first | with_reducible assumption | repeat (first | exact .head _ | with_reducible assumption | apply mC)); (case hn => first | rfl | simp)) | (refine' xAm rfl rfl rfl inferInstance ?hm ?hv ?hn ?ha ?_; (case hm => first | with_reducible assumption | repeat (first | exact .head _ | with_reducible assumption | apply mC)); (case hv => first | with_reducible assumption | (simp only [kC, kD, kE, kF]; try rfl)); (case hn => first | rfl | simp)) | (refine' xAi rfl rfl rfl inferInstance ?hm ?hv ?ha ?_; (case hm => first | with_reducible assumption | repeat (first | exact .head _ | with_reducible assumption | apply mC)); (case hv => first | rfl | with_reducible assumption)) | (refine' xAn rfl rfl rfl inferInstance ?hm ?hv ?hn ?ha ?_; (case hm => first | with_reducible assumption | repeat (first | exact .head _ | with_reducible assumption | apply mC)); (case hv => first | with_reducible assumption | (simp only [kC, kD, kE, kF]; try rfl)); (case hn => first | rfl | simp)) | (refine' xAj rfl rfl rfl inferInstance ?hm ?hv ?ha ?_; (case hm => first | with_reducible assumption | repeat (first | exact .head _ | with_reducible assumption | apply mC)); (case hv => first | rfl | with_reducible assumption)) | ((first | refine' xAd (by decide) rfl rfl rfl rfl (fun w => ?hq) ?ha ?_ | refine' xBf (by decide) rfl rfl rfl rfl (fun w => ?hq) ?ha ?_ | refine' xAp (by decide) rfl rfl rfl (fun w => ?hq) ?ha ?_ | refine' xAe (by decide) rfl rfl rfl (fun w => ?hq) ?ha ?_ | refine' xAo (by decide) rfl rfl rfl (fun w => ?hq) ?ha ?_ | refine' xBd (by decide) rfl rfl rfl rfl (fun w => ?hq) ?ha ?_ | refine' xBc (by decide) rfl rfl rfl rfl rfl rfl (fun w => ?hq) ?ha ?_ | refine' xBb (by decide) rfl rfl (fun w => ?hq) ?ha ?_ | refine' xAq (by decide) rfl rfl rfl (fun w => ?hq) ?ha ?_ | refine' xBe (by decide) rfl rfl rfl (fun w => ?hq) ?ha ?_); (case hq => go_simp; try rfl)) | (refine' xAh (by decide) rfl rfl rfl ?ha ?_) | (refine' xBl (by decide) rfl rfl rfl rfl ?ha ?_) | (refine' xBk (by decide) rfl ?ha ?_) | fail); try (case ha => simp only [kP, kQ, kA, kB]; try rfl))
  refine xBs (hK _ _ ?_)
  clear hK K
  repeat' (first
    | exact f_nil
    | (refine f_is 3 ?_; refine f_call _ rfl rfl rfl rfl rfl (xBi Tryz.func36 (by kernel_rfl) (by kernel_rfl) _) (fun w hw => ref_made key hw) (fun v M hM => ?_) ?_; (obtain ⟨g1, cap1, cur1, rfl, o1, rfl⟩ := hM; replace o1 := Held.mk o1; refine ⟨(by repeat (first | exact xBu | refine xBn (by repeat (first | exact .head _ | with_reducible assumption | apply mC)) ?_)), ?_⟩; try simp only [Act.put, kA, kB, List.setIfInBounds_toArray]))
    | (refine f_is 5 ?_; refine f_call _ rfl rfl rfl rfl rfl (xBi Tryz.func36 (by kernel_rfl) (by kernel_rfl) _) (fun w hw => ref_made r hw) (fun v M hM => ?_) ?_; (obtain ⟨g2, cap2, cur2, rfl, o2, rfl⟩ := hM; replace o2 := Held.mk o2; refine ⟨(by repeat (first | exact xBu | refine xBn (by repeat (first | exact .head _ | with_reducible assumption | apply mC)) ?_)), ?_⟩; try simp only [Act.put, kA, kB, List.setIfInBounds_toArray]))
    | (refine f_is 12 ?_; refine f_new rfl rfl (isNew_allocR rfl rfl) (by repeat (first | exact xBu | refine xBn (by repeat (first | exact .head _ | with_reducible assumption | apply mC)) ?_)) (fun b6 => ?_) ?_; try simp only [Act.put, kA, kB, List.setIfInBounds_toArray])
    | (refine f_is 7 ?_; refine f_new rfl rfl (isNew_three rfl rfl rfl rfl rfl (rows_three _ _ _ _ _ _ _ _ _)) (by repeat (first | exact xBu | refine xBn (by repeat (first | exact .head _ | with_reducible assumption | apply mC)) ?_)) (fun rb => ?_) ?_; try simp only [Act.put, kA, kB, List.setIfInBounds_toArray])
    | (refine f_is 8 ?_; refine f_y rfl rfl (yields_call rfl rfl rfl (xBi Tryz.func35 (by kernel_rfl) (by kernel_rfl) _) (fun w hw => cn.out _ _ _ _ _ _ _ _ _ o1.out o2.out (by repeat (first | exact .head _ | with_reducible assumption | apply mC)) (by repeat (first | exact .head _ | with_reducible assumption | apply mC)) (by repeat (first | exact .head _ | with_reducible assumption | apply mC)) (by repeat (first | exact .head _ | with_reducible assumption | apply mC)) w hw)) (by repeat (first | exact xBu | refine xBn (by repeat (first | exact .head _ | with_reducible assumption | apply mC)) ?_)) ?_ ?_; try simp only [Act.put, kA, kB, List.setIfInBounds_toArray])
    | (refine f_is 13 ?_; refine f_s rfl rfl (xDf rfl rfl rfl inferInstance rfl rfl rfl rfl (by repeat (first | exact xAx.head | apply xAx.tail))) (by repeat (first | exact xBu | refine xBn (by repeat (first | exact .head _ | with_reducible assumption | apply mC)) ?_)) ?_ ?_; try simp only [Act.put, kA, kB, List.setIfInBounds_toArray])
    | (refine f_is 14 ?_; refine f_y rfl rfl (yields_move rfl rfl rfl) (by repeat (first | exact xBu | refine xBn (by repeat (first | exact .head _ | with_reducible assumption | apply mC)) ?_)) ?_ ?_; try simp only [Act.put, kA, kB, List.setIfInBounds_toArray])
    | refine f_at [3, 12] (by decide +kernel) rfl ?_
    | refine f_at [5, 12] (by decide +kernel) rfl ?_
    | refine f_at [7, 12] (by decide +kernel) rfl ?_
    | refine f_at [8, 12] (by decide +kernel) rfl ?_
    | refine f_at [3] (by decide +kernel) rfl ?_
    | refine f_at [5] (by decide +kernel) rfl ?_
    | refine f_at [7] (by decide +kernel) rfl ?_
    | refine f_at [8] (by decide +kernel) rfl ?_
    | refine f_at [12] (by decide +kernel) rfl ?_
    | refine f_at [13] (by decide +kernel) rfl ?_
    | refine f_at [14] (by decide +kernel) rfl ?_
    | refine f_at [13, 14] (by decide +kernel) rfl ?_
    | refine f_at [12, 14] (by decide +kernel) rfl ?_
    | (refine fHeads [(b3, Obj.cells (gl p q g h).toArray 26), (b4, Obj.cells (nl key).toArray 24), (b5, Obj.cells (u8s 32 H).toArray 28), (b0, Obj.cells (nl r).toArray 24)] [2, 2, 2, 2, 2, 2, 2, 2, 2, 1, 1, 1, 2, 2, 2] 3 rfl (by repeat (first | exact xBu | refine xBn (by repeat (first | exact .head _ | with_reducible assumption | apply mC)) ?_)) (by repeat (first | exact xBu | refine xBn (by repeat (first | exact .head _ | with_reducible assumption | apply mC)) ?_)) rfl (by decide +kernel) (fun K hK => ?_); (repeat ((first | (refine xBj ?_) | (refine' xAs (by decide) rfl (.inl rfl) rfl ?ha ?_) | (refine' xAs (by decide) rfl (.inr rfl) rfl ?ha ?_) | (refine' xAr rfl rfl rfl inferInstance ?hm ?hn ?ha ?_; (case hm => first | with_reducible assumption | repeat (first | exact .head _ | with_reducible assumption | apply mC)); (case hn => first | rfl | simp)) | (refine' xAm rfl rfl rfl inferInstance ?hm ?hv ?hn ?ha ?_; (case hm => first | with_reducible assumption | repeat (first | exact .head _ | with_reducible assumption | apply mC)); (case hv => first | with_reducible assumption | (simp only [kC, kD, kE, kF]; try rfl)); (case hn => first | rfl | simp)) | (refine' xAi rfl rfl rfl inferInstance ?hm ?hv ?ha ?_; (case hm => first | with_reducible assumption | repeat (first | exact .head _ | with_reducible assumption | apply mC)); (case hv => first | rfl | with_reducible assumption)) | (refine' xAn rfl rfl rfl inferInstance ?hm ?hv ?hn ?ha ?_; (case hm => first | with_reducible assumption | repeat (first | exact .head _ | with_reducible assumption | apply mC)); (case hv => first | with_reducible assumption | (simp only [kC, kD, kE, kF]; try rfl)); (case hn => first | rfl | simp)) | (refine' xAj rfl rfl rfl inferInstance ?hm ?hv ?ha ?_; (case hm => first | with_reducible assumption | repeat (first | exact .head _ | with_reducible assumption | apply mC)); (case hv => first | rfl | with_reducible assumption)) | ((first | refine' xAd (by decide) rfl rfl rfl rfl (fun w => ?hq) ?ha ?_ | refine' xBf (by decide) rfl rfl rfl rfl (fun w => ?hq) ?ha ?_ | refine' xAp (by decide) rfl rfl rfl (fun w => ?hq) ?ha ?_ | refine' xAe (by decide) rfl rfl rfl (fun w => ?hq) ?ha ?_ | refine' xAo (by decide) rfl rfl rfl (fun w => ?hq) ?ha ?_ | refine' xBd (by decide) rfl rfl rfl rfl (fun w => ?hq) ?ha ?_ | refine' xBc (by decide) rfl rfl rfl rfl rfl rfl (fun w => ?hq) ?ha ?_ | refine' xBb (by decide) rfl rfl (fun w => ?hq) ?ha ?_ | refine' xAq (by decide) rfl rfl rfl (fun w => ?hq) ?ha ?_ | refine' xBe (by decide) rfl rfl rfl (fun w => ?hq) ?ha ?_); (case hq => go_simp; try rfl)) | (refine' xAh (by decide) rfl rfl rfl ?ha ?_) | (refine' xBl (by decide) rfl rfl rfl rfl ?ha ?_) | (refine' xBk (by decide) rfl ?ha ?_) | fail); try (case ha => simp only [kP, kQ, kA, kB]; try rfl))); refine xBs (hK _ _ ?_); clear hK K)
    | (refine fHeads [(b3, Obj.cells (gl p q g h).toArray 26), (b4, Obj.cells (nl key).toArray 24), (b5, Obj.cells (u8s 32 H).toArray 28), (b0, Obj.cells (nl r).toArray 24)] [2, 2, 2, 2, 2, 2, 2, 2, 2, 1, 1, 1, 2, 2, 2] 2 rfl (by repeat (first | exact xBu | refine xBn (by repeat (first | exact .head _ | with_reducible assumption | apply mC)) ?_)) (by repeat (first | exact xBu | refine xBn (by repeat (first | exact .head _ | with_reducible assumption | apply mC)) ?_)) rfl (by decide +kernel) (fun K hK => ?_); (repeat ((first | (refine xBj ?_) | (refine' xAs (by decide) rfl (.inl rfl) rfl ?ha ?_) | (refine' xAs (by decide) rfl (.inr rfl) rfl ?ha ?_) | (refine' xAr rfl rfl rfl inferInstance ?hm ?hn ?ha ?_; (case hm => first | with_reducible assumption | repeat (first | exact .head _ | with_reducible assumption | apply mC)); (case hn => first | rfl | simp)) | (refine' xAm rfl rfl rfl inferInstance ?hm ?hv ?hn ?ha ?_; (case hm => first | with_reducible assumption | repeat (first | exact .head _ | with_reducible assumption | apply mC)); (case hv => first | with_reducible assumption | (simp only [kC, kD, kE, kF]; try rfl)); (case hn => first | rfl | simp)) | (refine' xAi rfl rfl rfl inferInstance ?hm ?hv ?ha ?_; (case hm => first | with_reducible assumption | repeat (first | exact .head _ | with_reducible assumption | apply mC)); (case hv => first | rfl | with_reducible assumption)) | (refine' xAn rfl rfl rfl inferInstance ?hm ?hv ?hn ?ha ?_; (case hm => first | with_reducible assumption | repeat (first | exact .head _ | with_reducible assumption | apply mC)); (case hv => first | with_reducible assumption | (simp only [kC, kD, kE, kF]; try rfl)); (case hn => first | rfl | simp)) | (refine' xAj rfl rfl rfl inferInstance ?hm ?hv ?ha ?_; (case hm => first | with_reducible assumption | repeat (first | exact .head _ | with_reducible assumption | apply mC)); (case hv => first | rfl | with_reducible assumption)) | ((first | refine' xAd (by decide) rfl rfl rfl rfl (fun w => ?hq) ?ha ?_ | refine' xBf (by decide) rfl rfl rfl rfl (fun w => ?hq) ?ha ?_ | refine' xAp (by decide) rfl rfl rfl (fun w => ?hq) ?ha ?_ | refine' xAe (by decide) rfl rfl rfl (fun w => ?hq) ?ha ?_ | refine' xAo (by decide) rfl rfl rfl (fun w => ?hq) ?ha ?_ | refine' xBd (by decide) rfl rfl rfl rfl (fun w => ?hq) ?ha ?_ | refine' xBc (by decide) rfl rfl rfl rfl rfl rfl (fun w => ?hq) ?ha ?_ | refine' xBb (by decide) rfl rfl (fun w => ?hq) ?ha ?_ | refine' xAq (by decide) rfl rfl rfl (fun w => ?hq) ?ha ?_ | refine' xBe (by decide) rfl rfl rfl (fun w => ?hq) ?ha ?_); (case hq => go_simp; try rfl)) | (refine' xAh (by decide) rfl rfl rfl ?ha ?_) | (refine' xBl (by decide) rfl rfl rfl rfl ?ha ?_) | (refine' xBk (by decide) rfl ?ha ?_) | fail); try (case ha => simp only [kP, kQ, kA, kB]; try rfl))); refine xBs (hK _ _ ?_); clear hK K))
  all_goals refine f_end (by decide +kernel) (fun w hR => ?_)
  all_goals simp only [Exit.then]
  all_goals refine kz _ _ ?_
  all_goals clear kz
  all_goals go_wp2_with (first | (refine' xAb hR rfl rfl rfl ?_; clear hR; intro blk w hR) | (refine' xAa hR rfl rfl inferInstance ?_; clear hR; intro blk w hR) | (refine' aFq hR rfl rfl rfl inferInstance ?_) | (refine' aGq hR rfl rfl rfl inferInstance ?_) | (refine' aHq hR rfl rfl rfl inferInstance ?_) | (refine' aDq hR rfl rfl rfl inferInstance rfl ?_; clear hR; intro w hR) | (refine' aEq hR rfl rfl rfl inferInstance rfl rfl ?_; clear hR; intro w hR) | fail)
  all_goals (refine' bodyPost_ret (xBq Tryz.results16 rfl (hR.loadAll (P := Tryz.prog) (ty := 24) ?hm ?hn)) rfl ⟨rfl, hR.below⟩; (case hm => repeat (first | exact .head _ | apply mC)); (case hn => rfl))
end
end Go.Proofs.YtgfoeongjhkdmaaGreat
