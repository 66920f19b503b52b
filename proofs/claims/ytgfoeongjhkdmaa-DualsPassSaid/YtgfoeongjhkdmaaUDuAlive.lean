/- balefirelaw12.alive says yes. Printed by mkalive12.py. -/
import Derived.Test.YtgfoeongjhkdmaaUT
import Derived.Test.YtgfoeongjhkdmaaUPAlive
set_option linter.unusedVariables false
set_option linter.unusedSimpArgs false
namespace Go.Proofs.Ytgfoeongjhkdmaa
open Go.RowKit
attribute [local irreducible] Calls Instr.build Instr.buildSlice
theorem u64s_1 (a : Int) (w : World) : (Instr.buildSlice 78 1 #[(0, .int .u64 a)]).run Try.prog w = .ok (.slice (some ⟨w.heap.size, 0, none⟩) 1 1) (w.alloc (.cells [Value.int .u64 a].toArray 22)) := by go_simp
set_option maxRecDepth 100000 in
set_option maxHeartbeats 8000000 in
theorem alive12 (W : World) : Calls Try.prog 18 #[] W fun e w' => e = .returned (.bool true) ∧ Below W.heap.size W w' := by
  have hR := Rep.init W
  have kn := fun w => known_any (p := 23) (q := 11) (g := 4) (h := 9) rfl rfl rfl rfl w
  go_enter Try.func18, Try.ntmps18
  go_wp2_with (first | (refine' xAb hR rfl rfl rfl ?_; clear hR; intro blk w hR) | (refine' xAa hR rfl rfl inferInstance ?_; clear hR; intro blk w hR) | (refine' aFq hR rfl rfl rfl inferInstance ?_) | (refine' aGq hR rfl rfl rfl inferInstance ?_) | (refine' aHq hR rfl rfl rfl inferInstance ?_) | (refine' aIq hR rfl rfl rfl inferInstance rfl ?_; clear hR; intro w hR) | (refine' aJq hR rfl rfl rfl inferInstance rfl rfl ?_; clear hR; intro w hR) | (go_at_call 41; refine (kn _).mono ?_; rintro e w ⟨rfl, hb⟩; replace hR := hR.call hb; clear hb))
  obtain ⟨b1, hb_⟩ : ∃ x, x = blk := ⟨_, rfl⟩
  subst hb_
  clear kn
  try simp only [Act.put, kA, kB, List.setIfInBounds_toArray]
  rename_i K5 k5
  refine xCa hR 9 xCf rfl ?_
  clear hR
  refine fHeads [(b1, .cells (gl 23 11 4 9).toArray 26)] [1, 2, 2, 2, 2, 2, 2, 2, 2] 8 rfl (by repeat (first | exact xBg | refine xAv (by repeat (first | exact .head _ | with_reducible assumption | apply mC)) ?_)) (by repeat (first | exact xBg | refine xAv (by repeat (first | exact .head _ | with_reducible assumption | apply mC)) ?_)) rfl (by decide +kernel) (fun K hK => ?_)
  repeat ((first | (refine' xCi rfl rfl rfl inferInstance ?hm ?hn ?ha ?_; (case hm => exact .head _); (case hn => rfl)) | (refine xBl ?_) | (refine' xAr (by decide) rfl (.inl rfl) rfl ?ha ?_) | (refine' xAr (by decide) rfl (.inr rfl) rfl ?ha ?_) | (refine' xAp rfl rfl rfl inferInstance ?hm ?hn ?ha ?_; (case hm => first | with_reducible assumption | repeat (first | exact .head _ | with_reducible assumption | apply mC)); (case hn => first | rfl | simp)) | (refine' xAk rfl rfl rfl inferInstance ?hm ?hv ?hn ?ha ?_; (case hm => first | with_reducible assumption | repeat (first | exact .head _ | with_reducible assumption | apply mC)); (case hv => first | with_reducible assumption | (simp only [kC, kD, kE, kF]; try rfl)); (case hn => first | rfl | simp)) | (refine' xAf rfl rfl rfl inferInstance ?hm ?hv ?ha ?_; (case hm => first | with_reducible assumption | repeat (first | exact .head _ | with_reducible assumption | apply mC)); (case hv => first | rfl | with_reducible assumption)) | (refine' xAl rfl rfl rfl inferInstance ?hm ?hv ?hn ?ha ?_; (case hm => first | with_reducible assumption | repeat (first | exact .head _ | with_reducible assumption | apply mC)); (case hv => first | with_reducible assumption | (simp only [kC, kD, kE, kF]; try rfl)); (case hn => first | rfl | simp)) | (refine' xAe rfl rfl rfl inferInstance ?hm ?hv ?ha ?_; (case hm => first | with_reducible assumption | repeat (first | exact .head _ | with_reducible assumption | apply mC)); (case hv => first | rfl | with_reducible assumption)) | ((first | refine' xAd (by decide) rfl rfl rfl rfl (fun w => ?hq) ?ha ?_ | refine' xBb (by decide) rfl rfl rfl rfl (fun w => ?hq) ?ha ?_ | refine' xAm (by decide) rfl rfl rfl (fun w => ?hq) ?ha ?_ | refine' xAc (by decide) rfl rfl rfl (fun w => ?hq) ?ha ?_ | refine' xAo (by decide) rfl rfl rfl (fun w => ?hq) ?ha ?_ | refine' xBd (by decide) rfl rfl rfl rfl (fun w => ?hq) ?ha ?_ | refine' xBa (by decide) rfl rfl rfl rfl rfl rfl (fun w => ?hq) ?ha ?_ | refine' xBe (by decide) rfl rfl (fun w => ?hq) ?ha ?_ | refine' xAn (by decide) rfl rfl rfl (fun w => ?hq) ?ha ?_ | refine' xBc (by decide) rfl rfl rfl (fun w => ?hq) ?ha ?_); (case hq => go_simp; try rfl)) | (refine' xAg (by decide) rfl rfl rfl ?ha ?_) | (refine' xBk (by decide) rfl rfl rfl rfl ?ha ?_) | (refine' xBm (by decide) rfl ?ha ?_)); try (case ha => simp only [kP, kQ, kA, kB]; try rfl))
  refine xBp (hK _ _ ?_)
  clear hK K
  try simp only [Act.put, kA, kB, List.setIfInBounds_toArray]
  refine f_at [1] (by decide +kernel) rfl ?_
  refine f_is 1 ?_
  refine f_new rfl rfl (xCt [(0, .int .u64 1)] rfl rfl (u64s_1 1)) (by repeat (first | exact xBg | refine xAv (by repeat (first | exact .head _ | with_reducible assumption | apply mC)) ?_)) (fun ba => ?_) xCm
  simp only [Act.put, kA, kB, List.setIfInBounds_toArray]
  refine f_at [2] (by decide +kernel) rfl ?_
  refine f_is 2 ?_
  refine f_call (fun v M => ∃ g cap, ∃ cur : List Value, v = .slice (some ⟨g, 0, none⟩) 1 cap ∧ NOwn cap cur 1 (nF [1]) ∧ M = (g, .cells cur.toArray 24) :: _) rfl rfl rfl rfl rfl (xBi Try.func22 (by kernel_rfl) (by kernel_rfl) _) (fun w hw => (of10_own (us := [1]) (by repeat (first | exact .head _ | with_reducible assumption | apply mC)) rfl (by decide) (by decide) (by decide) hw).mono fun e w' ⟨g, cap, h1, cur, h2, h3⟩ => ⟨_, h1, _, ⟨g, cap, cur, rfl, h2, rfl⟩, h3⟩) ?_ xCm
  rintro v M ⟨gA, capA, curA, rfl, hoA, rfl⟩
  refine ⟨(by repeat (first | exact xBg | refine xAv (by repeat (first | exact .head _ | with_reducible assumption | apply mC)) ?_)), ?_⟩
  simp only [Act.put, kA, kB, List.setIfInBounds_toArray]
  refine f_at [3] (by decide +kernel) rfl ?_
  refine f_is 3 ?_
  refine f_call (fun v M => ∃ gb, ∃ cur : List Value, v = .tuple #[.slice (some ⟨gb, 0, none⟩) 3 3, .int .i64 0] ∧ NOwn 3 cur 3 (nF [6, 10, 6]) ∧ M = (gb, .cells cur.toArray 24) :: _) rfl rfl rfl rfl rfl (xBi Try.func42 (by kernel_rfl) (by kernel_rfl) _) (fun w hw => (al12_w1 hoA (by repeat (first | exact .head _ | with_reducible assumption | apply mC)) hw).mono fun e w' ⟨gb, h1, cur, h2, h3⟩ => ⟨_, h1, _, ⟨gb, cur, rfl, h2, rfl⟩, h3⟩) ?_ xCm
  rintro v M ⟨gW, curW, rfl, hoW, rfl⟩
  refine ⟨(by repeat (first | exact xBg | refine xAv (by repeat (first | exact .head _ | with_reducible assumption | apply mC)) ?_)), ?_⟩
  simp only [Act.put, kA, kB, List.setIfInBounds_toArray]
  refine f_at [4] (by decide +kernel) rfl ?_
  refine f_is 4 ?_
  refine f_y rfl rfl (xBn rfl (.inr rfl) rfl) (by repeat (first | exact xBg | refine xAv (by repeat (first | exact .head _ | with_reducible assumption | apply mC)) ?_)) ?_ xCm
  simp only [Act.put, kA, kB, List.setIfInBounds_toArray]
  refine fHeads [(b1, .cells (gl 23 11 4 9).toArray 26)] [2, 2, 2, 2, 2, 1, 1, 2, 2] 2 rfl (by repeat (first | exact xBg | refine xAv (by repeat (first | exact .head _ | with_reducible assumption | apply mC)) ?_)) (by repeat (first | exact xBg | refine xAv (by repeat (first | exact .head _ | with_reducible assumption | apply mC)) ?_)) rfl (by decide +kernel) (fun K hK => ?_)
  repeat ((first | (refine xBl ?_) | (refine' xAr (by decide) rfl (.inl rfl) rfl ?ha ?_) | (refine' xAr (by decide) rfl (.inr rfl) rfl ?ha ?_) | (refine' xAp rfl rfl rfl inferInstance ?hm ?hn ?ha ?_; (case hm => first | with_reducible assumption | repeat (first | exact .head _ | with_reducible assumption | apply mC)); (case hn => first | rfl | simp)) | (refine' xAk rfl rfl rfl inferInstance ?hm ?hv ?hn ?ha ?_; (case hm => first | with_reducible assumption | repeat (first | exact .head _ | with_reducible assumption | apply mC)); (case hv => first | with_reducible assumption | (simp only [kC, kD, kE, kF]; try rfl)); (case hn => first | rfl | simp)) | (refine' xAf rfl rfl rfl inferInstance ?hm ?hv ?ha ?_; (case hm => first | with_reducible assumption | repeat (first | exact .head _ | with_reducible assumption | apply mC)); (case hv => first | rfl | with_reducible assumption)) | (refine' xAl rfl rfl rfl inferInstance ?hm ?hv ?hn ?ha ?_; (case hm => first | with_reducible assumption | repeat (first | exact .head _ | with_reducible assumption | apply mC)); (case hv => first | with_reducible assumption | (simp only [kC, kD, kE, kF]; try rfl)); (case hn => first | rfl | simp)) | (refine' xAe rfl rfl rfl inferInstance ?hm ?hv ?ha ?_; (case hm => first | with_reducible assumption | repeat (first | exact .head _ | with_reducible assumption | apply mC)); (case hv => first | rfl | with_reducible assumption)) | ((first | refine' xAd (by decide) rfl rfl rfl rfl (fun w => ?hq) ?ha ?_ | refine' xBb (by decide) rfl rfl rfl rfl (fun w => ?hq) ?ha ?_ | refine' xAm (by decide) rfl rfl rfl (fun w => ?hq) ?ha ?_ | refine' xAc (by decide) rfl rfl rfl (fun w => ?hq) ?ha ?_ | refine' xAo (by decide) rfl rfl rfl (fun w => ?hq) ?ha ?_ | refine' xBd (by decide) rfl rfl rfl rfl (fun w => ?hq) ?ha ?_ | refine' xBa (by decide) rfl rfl rfl rfl rfl rfl (fun w => ?hq) ?ha ?_ | refine' xBe (by decide) rfl rfl (fun w => ?hq) ?ha ?_ | refine' xAn (by decide) rfl rfl rfl (fun w => ?hq) ?ha ?_ | refine' xBc (by decide) rfl rfl rfl (fun w => ?hq) ?ha ?_); (case hq => go_simp; try rfl)) | (refine' xAg (by decide) rfl rfl rfl ?ha ?_) | (refine' xBk (by decide) rfl rfl rfl rfl ?ha ?_) | (refine' xBm (by decide) rfl ?ha ?_) | fail); try (case ha => simp only [kP, kQ, kA, kB]; try rfl))
  refine xBp (hK _ _ ?_)
  clear hK K
  try simp only [Act.put, kA, kB, List.setIfInBounds_toArray]
  refine f_at [7] (by decide +kernel) rfl ?_
  refine f_is 7 ?_
  refine f_y rfl rfl (xBn rfl (.inl rfl) rfl) (by repeat (first | exact xBg | refine xAv (by repeat (first | exact .head _ | with_reducible assumption | apply mC)) ?_)) ?_ xCm
  simp only [Act.put, kA, kB, List.setIfInBounds_toArray]
  refine f_at [8] (by decide +kernel) rfl ?_
  refine f_is 8 ?_
  refine f_y rfl rfl (xBn rfl (.inl rfl) rfl) (by repeat (first | exact xBg | refine xAv (by repeat (first | exact .head _ | with_reducible assumption | apply mC)) ?_)) ?_ xCm
  simp only [Act.put, kA, kB, List.setIfInBounds_toArray]
  refine f_end (by decide +kernel) (fun w hR => ?_)
  simp only [Exit.then]
  refine k5 _ _ ?_
  replace hR := hR.weaken (L' := [_, _]) (.cons_cons _ (.cons _ (.cons _ (List.Sublist.refl _))))
  clear K5 k5 hoA
  go_wp2_with (first | (refine' xAb hR rfl rfl rfl ?_; clear hR; intro blk w hR) | (refine' xAa hR rfl rfl inferInstance ?_; clear hR; intro blk w hR) | (refine' aFq hR rfl rfl rfl inferInstance ?_) | (refine' aGq hR rfl rfl rfl inferInstance ?_) | (refine' aHq hR rfl rfl rfl inferInstance ?_) | (refine' aIq hR rfl rfl rfl inferInstance rfl ?_; clear hR; intro w hR) | (refine' aJq hR rfl rfl rfl inferInstance rfl rfl ?_; clear hR; intro w hR) | fail)
  rename_i K5 k5
  refine xCa hR 9 xCf rfl ?_
  clear hR
  refine fHeads [(b1, .cells (gl 23 11 4 9).toArray 26)] [1, 2, 2, 2, 2, 2, 2, 2, 2] 8 rfl (by repeat (first | exact xBg | refine xAv (by repeat (first | exact .head _ | with_reducible assumption | apply mC)) ?_)) (by repeat (first | exact xBg | refine xAv (by repeat (first | exact .head _ | with_reducible assumption | apply mC)) ?_)) rfl (by decide +kernel) (fun K hK => ?_)
  repeat ((first | (refine' xCi rfl rfl rfl inferInstance ?hm ?hn ?ha ?_; (case hm => exact .head _); (case hn => rfl)) | (refine xBl ?_) | (refine' xAr (by decide) rfl (.inl rfl) rfl ?ha ?_) | (refine' xAr (by decide) rfl (.inr rfl) rfl ?ha ?_) | (refine' xAp rfl rfl rfl inferInstance ?hm ?hn ?ha ?_; (case hm => first | with_reducible assumption | repeat (first | exact .head _ | with_reducible assumption | apply mC)); (case hn => first | rfl | simp)) | (refine' xAk rfl rfl rfl inferInstance ?hm ?hv ?hn ?ha ?_; (case hm => first | with_reducible assumption | repeat (first | exact .head _ | with_reducible assumption | apply mC)); (case hv => first | with_reducible assumption | (simp only [kC, kD, kE, kF]; try rfl)); (case hn => first | rfl | simp)) | (refine' xAf rfl rfl rfl inferInstance ?hm ?hv ?ha ?_; (case hm => first | with_reducible assumption | repeat (first | exact .head _ | with_reducible assumption | apply mC)); (case hv => first | rfl | with_reducible assumption)) | (refine' xAl rfl rfl rfl inferInstance ?hm ?hv ?hn ?ha ?_; (case hm => first | with_reducible assumption | repeat (first | exact .head _ | with_reducible assumption | apply mC)); (case hv => first | with_reducible assumption | (simp only [kC, kD, kE, kF]; try rfl)); (case hn => first | rfl | simp)) | (refine' xAe rfl rfl rfl inferInstance ?hm ?hv ?ha ?_; (case hm => first | with_reducible assumption | repeat (first | exact .head _ | with_reducible assumption | apply mC)); (case hv => first | rfl | with_reducible assumption)) | ((first | refine' xAd (by decide) rfl rfl rfl rfl (fun w => ?hq) ?ha ?_ | refine' xBb (by decide) rfl rfl rfl rfl (fun w => ?hq) ?ha ?_ | refine' xAm (by decide) rfl rfl rfl (fun w => ?hq) ?ha ?_ | refine' xAc (by decide) rfl rfl rfl (fun w => ?hq) ?ha ?_ | refine' xAo (by decide) rfl rfl rfl (fun w => ?hq) ?ha ?_ | refine' xBd (by decide) rfl rfl rfl rfl (fun w => ?hq) ?ha ?_ | refine' xBa (by decide) rfl rfl rfl rfl rfl rfl (fun w => ?hq) ?ha ?_ | refine' xBe (by decide) rfl rfl (fun w => ?hq) ?ha ?_ | refine' xAn (by decide) rfl rfl rfl (fun w => ?hq) ?ha ?_ | refine' xBc (by decide) rfl rfl rfl (fun w => ?hq) ?ha ?_); (case hq => go_simp; try rfl)) | (refine' xAg (by decide) rfl rfl rfl ?ha ?_) | (refine' xBk (by decide) rfl rfl rfl rfl ?ha ?_) | (refine' xBm (by decide) rfl ?ha ?_)); try (case ha => simp only [kP, kQ, kA, kB]; try rfl))
  refine xBp (hK _ _ ?_)
  clear hK K
  try simp only [Act.put, kA, kB, List.setIfInBounds_toArray]
  refine f_at [1] (by decide +kernel) rfl ?_
  refine f_is 1 ?_
  refine f_new rfl rfl (xCt [(0, .int .u64 1), (1, .int .u64 1), (2, .int .u64 1)] rfl rfl (u64s_3 1 1 1)) (by repeat (first | exact xBg | refine xAv (by repeat (first | exact .head _ | with_reducible assumption | apply mC)) ?_)) (fun ba => ?_) xCm
  simp only [Act.put, kA, kB, List.setIfInBounds_toArray]
  refine f_at [2] (by decide +kernel) rfl ?_
  refine f_is 2 ?_
  refine f_call (fun v M => ∃ g cap, ∃ cur : List Value, v = .slice (some ⟨g, 0, none⟩) 3 cap ∧ NOwn cap cur 3 (nF [1, 1, 1]) ∧ M = (g, .cells cur.toArray 24) :: _) rfl rfl rfl rfl rfl (xBi Try.func22 (by kernel_rfl) (by kernel_rfl) _) (fun w hw => (of10_own (us := [1, 1, 1]) (by repeat (first | exact .head _ | with_reducible assumption | apply mC)) rfl (by decide) (by decide) (by decide) hw).mono fun e w' ⟨g, cap, h1, cur, h2, h3⟩ => ⟨_, h1, _, ⟨g, cap, cur, rfl, h2, rfl⟩, h3⟩) ?_ xCm
  rintro v M ⟨gA, capA, curA, rfl, hoA, rfl⟩
  refine ⟨(by repeat (first | exact xBg | refine xAv (by repeat (first | exact .head _ | with_reducible assumption | apply mC)) ?_)), ?_⟩
  simp only [Act.put, kA, kB, List.setIfInBounds_toArray]
  refine f_at [3] (by decide +kernel) rfl ?_
  refine f_is 3 ?_
  refine f_y rfl rfl (xCe rfl rfl rfl (xBi Try.func42 (by kernel_rfl) (by kernel_rfl) _) (fun w hw => al12_w2 hw)) (by repeat (first | exact xBg | refine xAv (by repeat (first | exact .head _ | with_reducible assumption | apply mC)) ?_)) ?_ xCm
  simp only [Act.put, kA, kB, List.setIfInBounds_toArray]
  refine f_at [4] (by decide +kernel) rfl ?_
  refine f_is 4 ?_
  refine f_y rfl rfl (xBn rfl (.inr rfl) rfl) (by repeat (first | exact xBg | refine xAv (by repeat (first | exact .head _ | with_reducible assumption | apply mC)) ?_)) ?_ xCm
  simp only [Act.put, kA, kB, List.setIfInBounds_toArray]
  refine fHeads [(b1, .cells (gl 23 11 4 9).toArray 26)] [2, 2, 2, 2, 2, 1, 1, 2, 2] 2 rfl (by repeat (first | exact xBg | refine xAv (by repeat (first | exact .head _ | with_reducible assumption | apply mC)) ?_)) (by repeat (first | exact xBg | refine xAv (by repeat (first | exact .head _ | with_reducible assumption | apply mC)) ?_)) rfl (by decide +kernel) (fun K hK => ?_)
  repeat ((first | (refine xBl ?_) | (refine' xAr (by decide) rfl (.inl rfl) rfl ?ha ?_) | (refine' xAr (by decide) rfl (.inr rfl) rfl ?ha ?_) | (refine' xAp rfl rfl rfl inferInstance ?hm ?hn ?ha ?_; (case hm => first | with_reducible assumption | repeat (first | exact .head _ | with_reducible assumption | apply mC)); (case hn => first | rfl | simp)) | (refine' xAk rfl rfl rfl inferInstance ?hm ?hv ?hn ?ha ?_; (case hm => first | with_reducible assumption | repeat (first | exact .head _ | with_reducible assumption | apply mC)); (case hv => first | with_reducible assumption | (simp only [kC, kD, kE, kF]; try rfl)); (case hn => first | rfl | simp)) | (refine' xAf rfl rfl rfl inferInstance ?hm ?hv ?ha ?_; (case hm => first | with_reducible assumption | repeat (first | exact .head _ | with_reducible assumption | apply mC)); (case hv => first | rfl | with_reducible assumption)) | (refine' xAl rfl rfl rfl inferInstance ?hm ?hv ?hn ?ha ?_; (case hm => first | with_reducible assumption | repeat (first | exact .head _ | with_reducible assumption | apply mC)); (case hv => first | with_reducible assumption | (simp only [kC, kD, kE, kF]; try rfl)); (case hn => first | rfl | simp)) | (refine' xAe rfl rfl rfl inferInstance ?hm ?hv ?ha ?_; (case hm => first | with_reducible assumption | repeat (first | exact .head _ | with_reducible assumption | apply mC)); (case hv => first | rfl | with_reducible assumption)) | ((first | refine' xAd (by decide) rfl rfl rfl rfl (fun w => ?hq) ?ha ?_ | refine' xBb (by decide) rfl rfl rfl rfl (fun w => ?hq) ?ha ?_ | refine' xAm (by decide) rfl rfl rfl (fun w => ?hq) ?ha ?_ | refine' xAc (by decide) rfl rfl rfl (fun w => ?hq) ?ha ?_ | refine' xAo (by decide) rfl rfl rfl (fun w => ?hq) ?ha ?_ | refine' xBd (by decide) rfl rfl rfl rfl (fun w => ?hq) ?ha ?_ | refine' xBa (by decide) rfl rfl rfl rfl rfl rfl (fun w => ?hq) ?ha ?_ | refine' xBe (by decide) rfl rfl (fun w => ?hq) ?ha ?_ | refine' xAn (by decide) rfl rfl rfl (fun w => ?hq) ?ha ?_ | refine' xBc (by decide) rfl rfl rfl (fun w => ?hq) ?ha ?_); (case hq => go_simp; try rfl)) | (refine' xAg (by decide) rfl rfl rfl ?ha ?_) | (refine' xBk (by decide) rfl rfl rfl rfl ?ha ?_) | (refine' xBm (by decide) rfl ?ha ?_) | fail); try (case ha => simp only [kP, kQ, kA, kB]; try rfl))
  refine xBp (hK _ _ ?_)
  clear hK K
  try simp only [Act.put, kA, kB, List.setIfInBounds_toArray]
  refine f_at [7] (by decide +kernel) rfl ?_
  refine f_is 7 ?_
  refine f_y rfl rfl (xBn rfl (.inl rfl) rfl) (by repeat (first | exact xBg | refine xAv (by repeat (first | exact .head _ | with_reducible assumption | apply mC)) ?_)) ?_ xCm
  simp only [Act.put, kA, kB, List.setIfInBounds_toArray]
  refine f_at [8] (by decide +kernel) rfl ?_
  refine f_is 8 ?_
  refine f_y rfl rfl (xBn rfl (.inl rfl) rfl) (by repeat (first | exact xBg | refine xAv (by repeat (first | exact .head _ | with_reducible assumption | apply mC)) ?_)) ?_ xCm
  simp only [Act.put, kA, kB, List.setIfInBounds_toArray]
  refine f_end (by decide +kernel) (fun w hR => ?_)
  simp only [Exit.then]
  refine k5 _ _ ?_
  replace hR := hR.weaken (L' := [_, _]) (.cons _ (.cons _ (List.Sublist.refl _)))
  clear K5 k5 hoA
  go_wp2_with (first | (refine' xAb hR rfl rfl rfl ?_; clear hR; intro blk w hR) | (refine' xAa hR rfl rfl inferInstance ?_; clear hR; intro blk w hR) | (refine' aFq hR rfl rfl rfl inferInstance ?_) | (refine' aGq hR rfl rfl rfl inferInstance ?_) | (refine' aHq hR rfl rfl rfl inferInstance ?_) | (refine' aIq hR rfl rfl rfl inferInstance rfl ?_; clear hR; intro w hR) | (refine' aJq hR rfl rfl rfl inferInstance rfl rfl ?_; clear hR; intro w hR) | fail)
  rename_i K5 k5
  refine xCa hR 9 xCf rfl ?_
  clear hR
  refine fHeads [(b1, .cells (gl 23 11 4 9).toArray 26)] [1, 2, 2, 2, 2, 2, 2, 2, 2] 8 rfl (by repeat (first | exact xBg | refine xAv (by repeat (first | exact .head _ | with_reducible assumption | apply mC)) ?_)) (by repeat (first | exact xBg | refine xAv (by repeat (first | exact .head _ | with_reducible assumption | apply mC)) ?_)) rfl (by decide +kernel) (fun K hK => ?_)
  repeat ((first | (refine' xCi rfl rfl rfl inferInstance ?hm ?hn ?ha ?_; (case hm => exact .head _); (case hn => rfl)) | (refine xBl ?_) | (refine' xAr (by decide) rfl (.inl rfl) rfl ?ha ?_) | (refine' xAr (by decide) rfl (.inr rfl) rfl ?ha ?_) | (refine' xAp rfl rfl rfl inferInstance ?hm ?hn ?ha ?_; (case hm => first | with_reducible assumption | repeat (first | exact .head _ | with_reducible assumption | apply mC)); (case hn => first | rfl | simp)) | (refine' xAk rfl rfl rfl inferInstance ?hm ?hv ?hn ?ha ?_; (case hm => first | with_reducible assumption | repeat (first | exact .head _ | with_reducible assumption | apply mC)); (case hv => first | with_reducible assumption | (simp only [kC, kD, kE, kF]; try rfl)); (case hn => first | rfl | simp)) | (refine' xAf rfl rfl rfl inferInstance ?hm ?hv ?ha ?_; (case hm => first | with_reducible assumption | repeat (first | exact .head _ | with_reducible assumption | apply mC)); (case hv => first | rfl | with_reducible assumption)) | (refine' xAl rfl rfl rfl inferInstance ?hm ?hv ?hn ?ha ?_; (case hm => first | with_reducible assumption | repeat (first | exact .head _ | with_reducible assumption | apply mC)); (case hv => first | with_reducible assumption | (simp only [kC, kD, kE, kF]; try rfl)); (case hn => first | rfl | simp)) | (refine' xAe rfl rfl rfl inferInstance ?hm ?hv ?ha ?_; (case hm => first | with_reducible assumption | repeat (first | exact .head _ | with_reducible assumption | apply mC)); (case hv => first | rfl | with_reducible assumption)) | ((first | refine' xAd (by decide) rfl rfl rfl rfl (fun w => ?hq) ?ha ?_ | refine' xBb (by decide) rfl rfl rfl rfl (fun w => ?hq) ?ha ?_ | refine' xAm (by decide) rfl rfl rfl (fun w => ?hq) ?ha ?_ | refine' xAc (by decide) rfl rfl rfl (fun w => ?hq) ?ha ?_ | refine' xAo (by decide) rfl rfl rfl (fun w => ?hq) ?ha ?_ | refine' xBd (by decide) rfl rfl rfl rfl (fun w => ?hq) ?ha ?_ | refine' xBa (by decide) rfl rfl rfl rfl rfl rfl (fun w => ?hq) ?ha ?_ | refine' xBe (by decide) rfl rfl (fun w => ?hq) ?ha ?_ | refine' xAn (by decide) rfl rfl rfl (fun w => ?hq) ?ha ?_ | refine' xBc (by decide) rfl rfl rfl (fun w => ?hq) ?ha ?_); (case hq => go_simp; try rfl)) | (refine' xAg (by decide) rfl rfl rfl ?ha ?_) | (refine' xBk (by decide) rfl rfl rfl rfl ?ha ?_) | (refine' xBm (by decide) rfl ?ha ?_)); try (case ha => simp only [kP, kQ, kA, kB]; try rfl))
  refine xBp (hK _ _ ?_)
  clear hK K
  try simp only [Act.put, kA, kB, List.setIfInBounds_toArray]
  refine f_at [1] (by decide +kernel) rfl ?_
  refine f_is 1 ?_
  refine f_new rfl rfl (xCt [(0, .int .u64 1)] rfl rfl (u64s_1 1)) (by repeat (first | exact xBg | refine xAv (by repeat (first | exact .head _ | with_reducible assumption | apply mC)) ?_)) (fun ba => ?_) xCm
  simp only [Act.put, kA, kB, List.setIfInBounds_toArray]
  refine f_at [2] (by decide +kernel) rfl ?_
  refine f_is 2 ?_
  refine f_call (fun v M => ∃ g cap, ∃ cur : List Value, v = .slice (some ⟨g, 0, none⟩) 1 cap ∧ NOwn cap cur 1 (nF [1]) ∧ M = (g, .cells cur.toArray 24) :: _) rfl rfl rfl rfl rfl (xBi Try.func22 (by kernel_rfl) (by kernel_rfl) _) (fun w hw => (of10_own (us := [1]) (by repeat (first | exact .head _ | with_reducible assumption | apply mC)) rfl (by decide) (by decide) (by decide) hw).mono fun e w' ⟨g, cap, h1, cur, h2, h3⟩ => ⟨_, h1, _, ⟨g, cap, cur, rfl, h2, rfl⟩, h3⟩) ?_ xCm
  rintro v M ⟨gA, capA, curA, rfl, hoA, rfl⟩
  refine ⟨(by repeat (first | exact xBg | refine xAv (by repeat (first | exact .head _ | with_reducible assumption | apply mC)) ?_)), ?_⟩
  simp only [Act.put, kA, kB, List.setIfInBounds_toArray]
  refine f_at [3] (by decide +kernel) rfl ?_
  refine f_is 3 ?_
  refine f_y rfl rfl (xCe rfl rfl rfl (xBi Try.func42 (by kernel_rfl) (by kernel_rfl) _) (fun w hw => al12_w3 hw)) (by repeat (first | exact xBg | refine xAv (by repeat (first | exact .head _ | with_reducible assumption | apply mC)) ?_)) ?_ xCm
  simp only [Act.put, kA, kB, List.setIfInBounds_toArray]
  refine f_at [4] (by decide +kernel) rfl ?_
  refine f_is 4 ?_
  refine f_y rfl rfl (xBn rfl (.inr rfl) rfl) (by repeat (first | exact xBg | refine xAv (by repeat (first | exact .head _ | with_reducible assumption | apply mC)) ?_)) ?_ xCm
  simp only [Act.put, kA, kB, List.setIfInBounds_toArray]
  refine fHeads [(b1, .cells (gl 23 11 4 9).toArray 26)] [2, 2, 2, 2, 2, 1, 1, 2, 2] 2 rfl (by repeat (first | exact xBg | refine xAv (by repeat (first | exact .head _ | with_reducible assumption | apply mC)) ?_)) (by repeat (first | exact xBg | refine xAv (by repeat (first | exact .head _ | with_reducible assumption | apply mC)) ?_)) rfl (by decide +kernel) (fun K hK => ?_)
  repeat ((first | (refine xBl ?_) | (refine' xAr (by decide) rfl (.inl rfl) rfl ?ha ?_) | (refine' xAr (by decide) rfl (.inr rfl) rfl ?ha ?_) | (refine' xAp rfl rfl rfl inferInstance ?hm ?hn ?ha ?_; (case hm => first | with_reducible assumption | repeat (first | exact .head _ | with_reducible assumption | apply mC)); (case hn => first | rfl | simp)) | (refine' xAk rfl rfl rfl inferInstance ?hm ?hv ?hn ?ha ?_; (case hm => first | with_reducible assumption | repeat (first | exact .head _ | with_reducible assumption | apply mC)); (case hv => first | with_reducible assumption | (simp only [kC, kD, kE, kF]; try rfl)); (case hn => first | rfl | simp)) | (refine' xAf rfl rfl rfl inferInstance ?hm ?hv ?ha ?_; (case hm => first | with_reducible assumption | repeat (first | exact .head _ | with_reducible assumption | apply mC)); (case hv => first | rfl | with_reducible assumption)) | (refine' xAl rfl rfl rfl inferInstance ?hm ?hv ?hn ?ha ?_; (case hm => first | with_reducible assumption | repeat (first | exact .head _ | with_reducible assumption | apply mC)); (case hv => first | with_reducible assumption | (simp only [kC, kD, kE, kF]; try rfl)); (case hn => first | rfl | simp)) | (refine' xAe rfl rfl rfl inferInstance ?hm ?hv ?ha ?_; (case hm => first | with_reducible assumption | repeat (first | exact .head _ | with_reducible assumption | apply mC)); (case hv => first | rfl | with_reducible assumption)) | ((first | refine' xAd (by decide) rfl rfl rfl rfl (fun w => ?hq) ?ha ?_ | refine' xBb (by decide) rfl rfl rfl rfl (fun w => ?hq) ?ha ?_ | refine' xAm (by decide) rfl rfl rfl (fun w => ?hq) ?ha ?_ | refine' xAc (by decide) rfl rfl rfl (fun w => ?hq) ?ha ?_ | refine' xAo (by decide) rfl rfl rfl (fun w => ?hq) ?ha ?_ | refine' xBd (by decide) rfl rfl rfl rfl (fun w => ?hq) ?ha ?_ | refine' xBa (by decide) rfl rfl rfl rfl rfl rfl (fun w => ?hq) ?ha ?_ | refine' xBe (by decide) rfl rfl (fun w => ?hq) ?ha ?_ | refine' xAn (by decide) rfl rfl rfl (fun w => ?hq) ?ha ?_ | refine' xBc (by decide) rfl rfl rfl (fun w => ?hq) ?ha ?_); (case hq => go_simp; try rfl)) | (refine' xAg (by decide) rfl rfl rfl ?ha ?_) | (refine' xBk (by decide) rfl rfl rfl rfl ?ha ?_) | (refine' xBm (by decide) rfl ?ha ?_) | fail); try (case ha => simp only [kP, kQ, kA, kB]; try rfl))
  refine xBp (hK _ _ ?_)
  clear hK K
  try simp only [Act.put, kA, kB, List.setIfInBounds_toArray]
  refine f_at [7] (by decide +kernel) rfl ?_
  refine f_is 7 ?_
  refine f_y rfl rfl (xBn rfl (.inl rfl) rfl) (by repeat (first | exact xBg | refine xAv (by repeat (first | exact .head _ | with_reducible assumption | apply mC)) ?_)) ?_ xCm
  simp only [Act.put, kA, kB, List.setIfInBounds_toArray]
  refine f_at [8] (by decide +kernel) rfl ?_
  refine f_is 8 ?_
  refine f_y rfl rfl (xBn rfl (.inl rfl) rfl) (by repeat (first | exact xBg | refine xAv (by repeat (first | exact .head _ | with_reducible assumption | apply mC)) ?_)) ?_ xCm
  simp only [Act.put, kA, kB, List.setIfInBounds_toArray]
  refine f_end (by decide +kernel) (fun w hR => ?_)
  simp only [Exit.then]
  refine k5 _ _ ?_
  replace hR := hR.weaken (L' := [_, _]) (.cons _ (.cons _ (List.Sublist.refl _)))
  clear K5 k5 hoA
  go_wp2_with (first | (refine' xAb hR rfl rfl rfl ?_; clear hR; intro blk w hR) | (refine' xAa hR rfl rfl inferInstance ?_; clear hR; intro blk w hR) | (refine' aFq hR rfl rfl rfl inferInstance ?_) | (refine' aGq hR rfl rfl rfl inferInstance ?_) | (refine' aHq hR rfl rfl rfl inferInstance ?_) | (refine' aIq hR rfl rfl rfl inferInstance rfl ?_; clear hR; intro w hR) | (refine' aJq hR rfl rfl rfl inferInstance rfl rfl ?_; clear hR; intro w hR) | fail)
  rename_i K5 k5
  refine xCa hR 9 xCf rfl ?_
  clear hR
  refine fHeads [(b1, .cells (gl 23 11 4 9).toArray 26)] [1, 2, 2, 2, 2, 2, 2, 2, 2] 8 rfl (by repeat (first | exact xBg | refine xAv (by repeat (first | exact .head _ | with_reducible assumption | apply mC)) ?_)) (by repeat (first | exact xBg | refine xAv (by repeat (first | exact .head _ | with_reducible assumption | apply mC)) ?_)) rfl (by decide +kernel) (fun K hK => ?_)
  repeat ((first | (refine' xCi rfl rfl rfl inferInstance ?hm ?hn ?ha ?_; (case hm => exact .head _); (case hn => rfl)) | (refine xBl ?_) | (refine' xAr (by decide) rfl (.inl rfl) rfl ?ha ?_) | (refine' xAr (by decide) rfl (.inr rfl) rfl ?ha ?_) | (refine' xAp rfl rfl rfl inferInstance ?hm ?hn ?ha ?_; (case hm => first | with_reducible assumption | repeat (first | exact .head _ | with_reducible assumption | apply mC)); (case hn => first | rfl | simp)) | (refine' xAk rfl rfl rfl inferInstance ?hm ?hv ?hn ?ha ?_; (case hm => first | with_reducible assumption | repeat (first | exact .head _ | with_reducible assumption | apply mC)); (case hv => first | with_reducible assumption | (simp only [kC, kD, kE, kF]; try rfl)); (case hn => first | rfl | simp)) | (refine' xAf rfl rfl rfl inferInstance ?hm ?hv ?ha ?_; (case hm => first | with_reducible assumption | repeat (first | exact .head _ | with_reducible assumption | apply mC)); (case hv => first | rfl | with_reducible assumption)) | (refine' xAl rfl rfl rfl inferInstance ?hm ?hv ?hn ?ha ?_; (case hm => first | with_reducible assumption | repeat (first | exact .head _ | with_reducible assumption | apply mC)); (case hv => first | with_reducible assumption | (simp only [kC, kD, kE, kF]; try rfl)); (case hn => first | rfl | simp)) | (refine' xAe rfl rfl rfl inferInstance ?hm ?hv ?ha ?_; (case hm => first | with_reducible assumption | repeat (first | exact .head _ | with_reducible assumption | apply mC)); (case hv => first | rfl | with_reducible assumption)) | ((first | refine' xAd (by decide) rfl rfl rfl rfl (fun w => ?hq) ?ha ?_ | refine' xBb (by decide) rfl rfl rfl rfl (fun w => ?hq) ?ha ?_ | refine' xAm (by decide) rfl rfl rfl (fun w => ?hq) ?ha ?_ | refine' xAc (by decide) rfl rfl rfl (fun w => ?hq) ?ha ?_ | refine' xAo (by decide) rfl rfl rfl (fun w => ?hq) ?ha ?_ | refine' xBd (by decide) rfl rfl rfl rfl (fun w => ?hq) ?ha ?_ | refine' xBa (by decide) rfl rfl rfl rfl rfl rfl (fun w => ?hq) ?ha ?_ | refine' xBe (by decide) rfl rfl (fun w => ?hq) ?ha ?_ | refine' xAn (by decide) rfl rfl rfl (fun w => ?hq) ?ha ?_ | refine' xBc (by decide) rfl rfl rfl (fun w => ?hq) ?ha ?_); (case hq => go_simp; try rfl)) | (refine' xAg (by decide) rfl rfl rfl ?ha ?_) | (refine' xBk (by decide) rfl rfl rfl rfl ?ha ?_) | (refine' xBm (by decide) rfl ?ha ?_)); try (case ha => simp only [kP, kQ, kA, kB]; try rfl))
  refine xBp (hK _ _ ?_)
  clear hK K
  try simp only [Act.put, kA, kB, List.setIfInBounds_toArray]
  refine f_at [1] (by decide +kernel) rfl ?_
  refine f_is 1 ?_
  refine f_new rfl rfl (xCt [(0, .int .u64 3), (1, .int .u64 5), (2, .int .u64 7)] rfl rfl (u64s_3 3 5 7)) (by repeat (first | exact xBg | refine xAv (by repeat (first | exact .head _ | with_reducible assumption | apply mC)) ?_)) (fun ba => ?_) xCm
  simp only [Act.put, kA, kB, List.setIfInBounds_toArray]
  refine f_at [2] (by decide +kernel) rfl ?_
  refine f_is 2 ?_
  refine f_call (fun v M => ∃ g cap, ∃ cur : List Value, v = .slice (some ⟨g, 0, none⟩) 3 cap ∧ NOwn cap cur 3 (nF [3, 5, 7]) ∧ M = (g, .cells cur.toArray 24) :: _) rfl rfl rfl rfl rfl (xBi Try.func22 (by kernel_rfl) (by kernel_rfl) _) (fun w hw => (of10_own (us := [3, 5, 7]) (by repeat (first | exact .head _ | with_reducible assumption | apply mC)) rfl (by decide) (by decide) (by decide) hw).mono fun e w' ⟨g, cap, h1, cur, h2, h3⟩ => ⟨_, h1, _, ⟨g, cap, cur, rfl, h2, rfl⟩, h3⟩) ?_ xCm
  rintro v M ⟨gA, capA, curA, rfl, hoA, rfl⟩
  refine ⟨(by repeat (first | exact xBg | refine xAv (by repeat (first | exact .head _ | with_reducible assumption | apply mC)) ?_)), ?_⟩
  simp only [Act.put, kA, kB, List.setIfInBounds_toArray]
  refine f_at [3] (by decide +kernel) rfl ?_
  refine f_is 3 ?_
  refine f_y rfl rfl (xCe rfl rfl rfl (xBi Try.func21 (by kernel_rfl) (by kernel_rfl) _) (fun w hw => al12_p1 hoA (by repeat (first | exact .head _ | with_reducible assumption | apply mC)) hw)) (by repeat (first | exact xBg | refine xAv (by repeat (first | exact .head _ | with_reducible assumption | apply mC)) ?_)) ?_ xCm
  simp only [Act.put, kA, kB, List.setIfInBounds_toArray]
  refine f_at [4] (by decide +kernel) rfl ?_
  refine f_is 4 ?_
  refine f_y rfl rfl (xBn rfl (.inr rfl) rfl) (by repeat (first | exact xBg | refine xAv (by repeat (first | exact .head _ | with_reducible assumption | apply mC)) ?_)) ?_ xCm
  simp only [Act.put, kA, kB, List.setIfInBounds_toArray]
  refine fHeads [(b1, .cells (gl 23 11 4 9).toArray 26)] [2, 2, 2, 2, 2, 1, 1, 2, 2] 2 rfl (by repeat (first | exact xBg | refine xAv (by repeat (first | exact .head _ | with_reducible assumption | apply mC)) ?_)) (by repeat (first | exact xBg | refine xAv (by repeat (first | exact .head _ | with_reducible assumption | apply mC)) ?_)) rfl (by decide +kernel) (fun K hK => ?_)
  repeat ((first | (refine xBl ?_) | (refine' xAr (by decide) rfl (.inl rfl) rfl ?ha ?_) | (refine' xAr (by decide) rfl (.inr rfl) rfl ?ha ?_) | (refine' xAp rfl rfl rfl inferInstance ?hm ?hn ?ha ?_; (case hm => first | with_reducible assumption | repeat (first | exact .head _ | with_reducible assumption | apply mC)); (case hn => first | rfl | simp)) | (refine' xAk rfl rfl rfl inferInstance ?hm ?hv ?hn ?ha ?_; (case hm => first | with_reducible assumption | repeat (first | exact .head _ | with_reducible assumption | apply mC)); (case hv => first | with_reducible assumption | (simp only [kC, kD, kE, kF]; try rfl)); (case hn => first | rfl | simp)) | (refine' xAf rfl rfl rfl inferInstance ?hm ?hv ?ha ?_; (case hm => first | with_reducible assumption | repeat (first | exact .head _ | with_reducible assumption | apply mC)); (case hv => first | rfl | with_reducible assumption)) | (refine' xAl rfl rfl rfl inferInstance ?hm ?hv ?hn ?ha ?_; (case hm => first | with_reducible assumption | repeat (first | exact .head _ | with_reducible assumption | apply mC)); (case hv => first | with_reducible assumption | (simp only [kC, kD, kE, kF]; try rfl)); (case hn => first | rfl | simp)) | (refine' xAe rfl rfl rfl inferInstance ?hm ?hv ?ha ?_; (case hm => first | with_reducible assumption | repeat (first | exact .head _ | with_reducible assumption | apply mC)); (case hv => first | rfl | with_reducible assumption)) | ((first | refine' xAd (by decide) rfl rfl rfl rfl (fun w => ?hq) ?ha ?_ | refine' xBb (by decide) rfl rfl rfl rfl (fun w => ?hq) ?ha ?_ | refine' xAm (by decide) rfl rfl rfl (fun w => ?hq) ?ha ?_ | refine' xAc (by decide) rfl rfl rfl (fun w => ?hq) ?ha ?_ | refine' xAo (by decide) rfl rfl rfl (fun w => ?hq) ?ha ?_ | refine' xBd (by decide) rfl rfl rfl rfl (fun w => ?hq) ?ha ?_ | refine' xBa (by decide) rfl rfl rfl rfl rfl rfl (fun w => ?hq) ?ha ?_ | refine' xBe (by decide) rfl rfl (fun w => ?hq) ?ha ?_ | refine' xAn (by decide) rfl rfl rfl (fun w => ?hq) ?ha ?_ | refine' xBc (by decide) rfl rfl rfl (fun w => ?hq) ?ha ?_); (case hq => go_simp; try rfl)) | (refine' xAg (by decide) rfl rfl rfl ?ha ?_) | (refine' xBk (by decide) rfl rfl rfl rfl ?ha ?_) | (refine' xBm (by decide) rfl ?ha ?_) | fail); try (case ha => simp only [kP, kQ, kA, kB]; try rfl))
  refine xBp (hK _ _ ?_)
  clear hK K
  try simp only [Act.put, kA, kB, List.setIfInBounds_toArray]
  refine f_at [7] (by decide +kernel) rfl ?_
  refine f_is 7 ?_
  refine f_y rfl rfl (xBn rfl (.inl rfl) rfl) (by repeat (first | exact xBg | refine xAv (by repeat (first | exact .head _ | with_reducible assumption | apply mC)) ?_)) ?_ xCm
  simp only [Act.put, kA, kB, List.setIfInBounds_toArray]
  refine f_at [8] (by decide +kernel) rfl ?_
  refine f_is 8 ?_
  refine f_y rfl rfl (xBn rfl (.inl rfl) rfl) (by repeat (first | exact xBg | refine xAv (by repeat (first | exact .head _ | with_reducible assumption | apply mC)) ?_)) ?_ xCm
  simp only [Act.put, kA, kB, List.setIfInBounds_toArray]
  refine f_end (by decide +kernel) (fun w hR => ?_)
  simp only [Exit.then]
  refine k5 _ _ ?_
  replace hR := hR.weaken (L' := [_, _]) (.cons _ (.cons _ (List.Sublist.refl _)))
  clear K5 k5 hoA
  go_wp2_with (first | (refine' xAb hR rfl rfl rfl ?_; clear hR; intro blk w hR) | (refine' xAa hR rfl rfl inferInstance ?_; clear hR; intro blk w hR) | (refine' aFq hR rfl rfl rfl inferInstance ?_) | (refine' aGq hR rfl rfl rfl inferInstance ?_) | (refine' aHq hR rfl rfl rfl inferInstance ?_) | (refine' aIq hR rfl rfl rfl inferInstance rfl ?_; clear hR; intro w hR) | (refine' aJq hR rfl rfl rfl inferInstance rfl rfl ?_; clear hR; intro w hR) | fail)
  rename_i K5 k5
  refine xCa hR 9 xCf rfl ?_
  clear hR
  refine fHeads [(b1, .cells (gl 23 11 4 9).toArray 26)] [1, 2, 2, 2, 2, 2, 2, 2, 2] 8 rfl (by repeat (first | exact xBg | refine xAv (by repeat (first | exact .head _ | with_reducible assumption | apply mC)) ?_)) (by repeat (first | exact xBg | refine xAv (by repeat (first | exact .head _ | with_reducible assumption | apply mC)) ?_)) rfl (by decide +kernel) (fun K hK => ?_)
  repeat ((first | (refine' xCi rfl rfl rfl inferInstance ?hm ?hn ?ha ?_; (case hm => exact .head _); (case hn => rfl)) | (refine xBl ?_) | (refine' xAr (by decide) rfl (.inl rfl) rfl ?ha ?_) | (refine' xAr (by decide) rfl (.inr rfl) rfl ?ha ?_) | (refine' xAp rfl rfl rfl inferInstance ?hm ?hn ?ha ?_; (case hm => first | with_reducible assumption | repeat (first | exact .head _ | with_reducible assumption | apply mC)); (case hn => first | rfl | simp)) | (refine' xAk rfl rfl rfl inferInstance ?hm ?hv ?hn ?ha ?_; (case hm => first | with_reducible assumption | repeat (first | exact .head _ | with_reducible assumption | apply mC)); (case hv => first | with_reducible assumption | (simp only [kC, kD, kE, kF]; try rfl)); (case hn => first | rfl | simp)) | (refine' xAf rfl rfl rfl inferInstance ?hm ?hv ?ha ?_; (case hm => first | with_reducible assumption | repeat (first | exact .head _ | with_reducible assumption | apply mC)); (case hv => first | rfl | with_reducible assumption)) | (refine' xAl rfl rfl rfl inferInstance ?hm ?hv ?hn ?ha ?_; (case hm => first | with_reducible assumption | repeat (first | exact .head _ | with_reducible assumption | apply mC)); (case hv => first | with_reducible assumption | (simp only [kC, kD, kE, kF]; try rfl)); (case hn => first | rfl | simp)) | (refine' xAe rfl rfl rfl inferInstance ?hm ?hv ?ha ?_; (case hm => first | with_reducible assumption | repeat (first | exact .head _ | with_reducible assumption | apply mC)); (case hv => first | rfl | with_reducible assumption)) | ((first | refine' xAd (by decide) rfl rfl rfl rfl (fun w => ?hq) ?ha ?_ | refine' xBb (by decide) rfl rfl rfl rfl (fun w => ?hq) ?ha ?_ | refine' xAm (by decide) rfl rfl rfl (fun w => ?hq) ?ha ?_ | refine' xAc (by decide) rfl rfl rfl (fun w => ?hq) ?ha ?_ | refine' xAo (by decide) rfl rfl rfl (fun w => ?hq) ?ha ?_ | refine' xBd (by decide) rfl rfl rfl rfl (fun w => ?hq) ?ha ?_ | refine' xBa (by decide) rfl rfl rfl rfl rfl rfl (fun w => ?hq) ?ha ?_ | refine' xBe (by decide) rfl rfl (fun w => ?hq) ?ha ?_ | refine' xAn (by decide) rfl rfl rfl (fun w => ?hq) ?ha ?_ | refine' xBc (by decide) rfl rfl rfl (fun w => ?hq) ?ha ?_); (case hq => go_simp; try rfl)) | (refine' xAg (by decide) rfl rfl rfl ?ha ?_) | (refine' xBk (by decide) rfl rfl rfl rfl ?ha ?_) | (refine' xBm (by decide) rfl ?ha ?_)); try (case ha => simp only [kP, kQ, kA, kB]; try rfl))
  refine xBp (hK _ _ ?_)
  clear hK K
  try simp only [Act.put, kA, kB, List.setIfInBounds_toArray]
  refine f_at [1] (by decide +kernel) rfl ?_
  refine f_is 1 ?_
  refine f_new rfl rfl (xCt [(0, .int .u64 3), (1, .int .u64 5), (2, .int .u64 8)] rfl rfl (u64s_3 3 5 8)) (by repeat (first | exact xBg | refine xAv (by repeat (first | exact .head _ | with_reducible assumption | apply mC)) ?_)) (fun ba => ?_) xCm
  simp only [Act.put, kA, kB, List.setIfInBounds_toArray]
  refine f_at [2] (by decide +kernel) rfl ?_
  refine f_is 2 ?_
  refine f_call (fun v M => ∃ g cap, ∃ cur : List Value, v = .slice (some ⟨g, 0, none⟩) 3 cap ∧ NOwn cap cur 3 (nF [3, 5, 8]) ∧ M = (g, .cells cur.toArray 24) :: _) rfl rfl rfl rfl rfl (xBi Try.func22 (by kernel_rfl) (by kernel_rfl) _) (fun w hw => (of10_own (us := [3, 5, 8]) (by repeat (first | exact .head _ | with_reducible assumption | apply mC)) rfl (by decide) (by decide) (by decide) hw).mono fun e w' ⟨g, cap, h1, cur, h2, h3⟩ => ⟨_, h1, _, ⟨g, cap, cur, rfl, h2, rfl⟩, h3⟩) ?_ xCm
  rintro v M ⟨gA, capA, curA, rfl, hoA, rfl⟩
  refine ⟨(by repeat (first | exact xBg | refine xAv (by repeat (first | exact .head _ | with_reducible assumption | apply mC)) ?_)), ?_⟩
  simp only [Act.put, kA, kB, List.setIfInBounds_toArray]
  refine f_at [3] (by decide +kernel) rfl ?_
  refine f_is 3 ?_
  refine f_y rfl rfl (xCe rfl rfl rfl (xBi Try.func21 (by kernel_rfl) (by kernel_rfl) _) (fun w hw => al12_p2 hoA (by repeat (first | exact .head _ | with_reducible assumption | apply mC)) hw)) (by repeat (first | exact xBg | refine xAv (by repeat (first | exact .head _ | with_reducible assumption | apply mC)) ?_)) ?_ xCm
  simp only [Act.put, kA, kB, List.setIfInBounds_toArray]
  refine f_at [4] (by decide +kernel) rfl ?_
  refine f_is 4 ?_
  refine f_y rfl rfl (xBn rfl (.inr rfl) rfl) (by repeat (first | exact xBg | refine xAv (by repeat (first | exact .head _ | with_reducible assumption | apply mC)) ?_)) ?_ xCm
  simp only [Act.put, kA, kB, List.setIfInBounds_toArray]
  refine fHeads [(b1, .cells (gl 23 11 4 9).toArray 26)] [2, 2, 2, 2, 2, 1, 1, 2, 2] 2 rfl (by repeat (first | exact xBg | refine xAv (by repeat (first | exact .head _ | with_reducible assumption | apply mC)) ?_)) (by repeat (first | exact xBg | refine xAv (by repeat (first | exact .head _ | with_reducible assumption | apply mC)) ?_)) rfl (by decide +kernel) (fun K hK => ?_)
  repeat ((first | (refine xBl ?_) | (refine' xAr (by decide) rfl (.inl rfl) rfl ?ha ?_) | (refine' xAr (by decide) rfl (.inr rfl) rfl ?ha ?_) | (refine' xAp rfl rfl rfl inferInstance ?hm ?hn ?ha ?_; (case hm => first | with_reducible assumption | repeat (first | exact .head _ | with_reducible assumption | apply mC)); (case hn => first | rfl | simp)) | (refine' xAk rfl rfl rfl inferInstance ?hm ?hv ?hn ?ha ?_; (case hm => first | with_reducible assumption | repeat (first | exact .head _ | with_reducible assumption | apply mC)); (case hv => first | with_reducible assumption | (simp only [kC, kD, kE, kF]; try rfl)); (case hn => first | rfl | simp)) | (refine' xAf rfl rfl rfl inferInstance ?hm ?hv ?ha ?_; (case hm => first | with_reducible assumption | repeat (first | exact .head _ | with_reducible assumption | apply mC)); (case hv => first | rfl | with_reducible assumption)) | (refine' xAl rfl rfl rfl inferInstance ?hm ?hv ?hn ?ha ?_; (case hm => first | with_reducible assumption | repeat (first | exact .head _ | with_reducible assumption | apply mC)); (case hv => first | with_reducible assumption | (simp only [kC, kD, kE, kF]; try rfl)); (case hn => first | rfl | simp)) | (refine' xAe rfl rfl rfl inferInstance ?hm ?hv ?ha ?_; (case hm => first | with_reducible assumption | repeat (first | exact .head _ | with_reducible assumption | apply mC)); (case hv => first | rfl | with_reducible assumption)) | ((first | refine' xAd (by decide) rfl rfl rfl rfl (fun w => ?hq) ?ha ?_ | refine' xBb (by decide) rfl rfl rfl rfl (fun w => ?hq) ?ha ?_ | refine' xAm (by decide) rfl rfl rfl (fun w => ?hq) ?ha ?_ | refine' xAc (by decide) rfl rfl rfl (fun w => ?hq) ?ha ?_ | refine' xAo (by decide) rfl rfl rfl (fun w => ?hq) ?ha ?_ | refine' xBd (by decide) rfl rfl rfl rfl (fun w => ?hq) ?ha ?_ | refine' xBa (by decide) rfl rfl rfl rfl rfl rfl (fun w => ?hq) ?ha ?_ | refine' xBe (by decide) rfl rfl (fun w => ?hq) ?ha ?_ | refine' xAn (by decide) rfl rfl rfl (fun w => ?hq) ?ha ?_ | refine' xBc (by decide) rfl rfl rfl (fun w => ?hq) ?ha ?_); (case hq => go_simp; try rfl)) | (refine' xAg (by decide) rfl rfl rfl ?ha ?_) | (refine' xBk (by decide) rfl rfl rfl rfl ?ha ?_) | (refine' xBm (by decide) rfl ?ha ?_) | fail); try (case ha => simp only [kP, kQ, kA, kB]; try rfl))
  refine xBp (hK _ _ ?_)
  clear hK K
  try simp only [Act.put, kA, kB, List.setIfInBounds_toArray]
  refine f_at [7] (by decide +kernel) rfl ?_
  refine f_is 7 ?_
  refine f_y rfl rfl (xBn rfl (.inl rfl) rfl) (by repeat (first | exact xBg | refine xAv (by repeat (first | exact .head _ | with_reducible assumption | apply mC)) ?_)) ?_ xCm
  simp only [Act.put, kA, kB, List.setIfInBounds_toArray]
  refine f_at [8] (by decide +kernel) rfl ?_
  refine f_is 8 ?_
  refine f_y rfl rfl (xBn rfl (.inl rfl) rfl) (by repeat (first | exact xBg | refine xAv (by repeat (first | exact .head _ | with_reducible assumption | apply mC)) ?_)) ?_ xCm
  simp only [Act.put, kA, kB, List.setIfInBounds_toArray]
  refine f_end (by decide +kernel) (fun w hR => ?_)
  simp only [Exit.then]
  refine k5 _ _ ?_
  replace hR := hR.weaken (L' := [_, _]) (.cons _ (.cons _ (List.Sublist.refl _)))
  clear K5 k5 hoA
  go_wp2_with (first | (refine' xAb hR rfl rfl rfl ?_; clear hR; intro blk w hR) | (refine' xAa hR rfl rfl inferInstance ?_; clear hR; intro blk w hR) | (refine' aFq hR rfl rfl rfl inferInstance ?_) | (refine' aGq hR rfl rfl rfl inferInstance ?_) | (refine' aHq hR rfl rfl rfl inferInstance ?_) | (refine' aIq hR rfl rfl rfl inferInstance rfl ?_; clear hR; intro w hR) | (refine' aJq hR rfl rfl rfl inferInstance rfl rfl ?_; clear hR; intro w hR) | fail)
  rename_i K5 k5
  refine xCa hR 9 xCf rfl ?_
  clear hR
  refine fHeads [(b1, .cells (gl 23 11 4 9).toArray 26)] [1, 2, 2, 2, 2, 2, 2, 2, 2] 8 rfl (by repeat (first | exact xBg | refine xAv (by repeat (first | exact .head _ | with_reducible assumption | apply mC)) ?_)) (by repeat (first | exact xBg | refine xAv (by repeat (first | exact .head _ | with_reducible assumption | apply mC)) ?_)) rfl (by decide +kernel) (fun K hK => ?_)
  repeat ((first | (refine' xCi rfl rfl rfl inferInstance ?hm ?hn ?ha ?_; (case hm => exact .head _); (case hn => rfl)) | (refine xBl ?_) | (refine' xAr (by decide) rfl (.inl rfl) rfl ?ha ?_) | (refine' xAr (by decide) rfl (.inr rfl) rfl ?ha ?_) | (refine' xAp rfl rfl rfl inferInstance ?hm ?hn ?ha ?_; (case hm => first | with_reducible assumption | repeat (first | exact .head _ | with_reducible assumption | apply mC)); (case hn => first | rfl | simp)) | (refine' xAk rfl rfl rfl inferInstance ?hm ?hv ?hn ?ha ?_; (case hm => first | with_reducible assumption | repeat (first | exact .head _ | with_reducible assumption | apply mC)); (case hv => first | with_reducible assumption | (simp only [kC, kD, kE, kF]; try rfl)); (case hn => first | rfl | simp)) | (refine' xAf rfl rfl rfl inferInstance ?hm ?hv ?ha ?_; (case hm => first | with_reducible assumption | repeat (first | exact .head _ | with_reducible assumption | apply mC)); (case hv => first | rfl | with_reducible assumption)) | (refine' xAl rfl rfl rfl inferInstance ?hm ?hv ?hn ?ha ?_; (case hm => first | with_reducible assumption | repeat (first | exact .head _ | with_reducible assumption | apply mC)); (case hv => first | with_reducible assumption | (simp only [kC, kD, kE, kF]; try rfl)); (case hn => first | rfl | simp)) | (refine' xAe rfl rfl rfl inferInstance ?hm ?hv ?ha ?_; (case hm => first | with_reducible assumption | repeat (first | exact .head _ | with_reducible assumption | apply mC)); (case hv => first | rfl | with_reducible assumption)) | ((first | refine' xAd (by decide) rfl rfl rfl rfl (fun w => ?hq) ?ha ?_ | refine' xBb (by decide) rfl rfl rfl rfl (fun w => ?hq) ?ha ?_ | refine' xAm (by decide) rfl rfl rfl (fun w => ?hq) ?ha ?_ | refine' xAc (by decide) rfl rfl rfl (fun w => ?hq) ?ha ?_ | refine' xAo (by decide) rfl rfl rfl (fun w => ?hq) ?ha ?_ | refine' xBd (by decide) rfl rfl rfl rfl (fun w => ?hq) ?ha ?_ | refine' xBa (by decide) rfl rfl rfl rfl rfl rfl (fun w => ?hq) ?ha ?_ | refine' xBe (by decide) rfl rfl (fun w => ?hq) ?ha ?_ | refine' xAn (by decide) rfl rfl rfl (fun w => ?hq) ?ha ?_ | refine' xBc (by decide) rfl rfl rfl (fun w => ?hq) ?ha ?_); (case hq => go_simp; try rfl)) | (refine' xAg (by decide) rfl rfl rfl ?ha ?_) | (refine' xBk (by decide) rfl rfl rfl rfl ?ha ?_) | (refine' xBm (by decide) rfl ?ha ?_)); try (case ha => simp only [kP, kQ, kA, kB]; try rfl))
  refine xBp (hK _ _ ?_)
  clear hK K
  try simp only [Act.put, kA, kB, List.setIfInBounds_toArray]
  refine f_at [1] (by decide +kernel) rfl ?_
  refine f_is 1 ?_
  refine f_new rfl rfl (xCt [(0, .int .u64 1)] rfl rfl (u64s_1 1)) (by repeat (first | exact xBg | refine xAv (by repeat (first | exact .head _ | with_reducible assumption | apply mC)) ?_)) (fun ba => ?_) xCm
  simp only [Act.put, kA, kB, List.setIfInBounds_toArray]
  refine f_at [2] (by decide +kernel) rfl ?_
  refine f_is 2 ?_
  refine f_call (fun v M => ∃ g cap, ∃ cur : List Value, v = .slice (some ⟨g, 0, none⟩) 1 cap ∧ NOwn cap cur 1 (nF [1]) ∧ M = (g, .cells cur.toArray 24) :: _) rfl rfl rfl rfl rfl (xBi Try.func22 (by kernel_rfl) (by kernel_rfl) _) (fun w hw => (of10_own (us := [1]) (by repeat (first | exact .head _ | with_reducible assumption | apply mC)) rfl (by decide) (by decide) (by decide) hw).mono fun e w' ⟨g, cap, h1, cur, h2, h3⟩ => ⟨_, h1, _, ⟨g, cap, cur, rfl, h2, rfl⟩, h3⟩) ?_ xCm
  rintro v M ⟨gA, capA, curA, rfl, hoA, rfl⟩
  refine ⟨(by repeat (first | exact xBg | refine xAv (by repeat (first | exact .head _ | with_reducible assumption | apply mC)) ?_)), ?_⟩
  simp only [Act.put, kA, kB, List.setIfInBounds_toArray]
  refine f_at [3] (by decide +kernel) rfl ?_
  refine f_is 3 ?_
  refine f_y rfl rfl (xCe rfl rfl rfl (xBi Try.func21 (by kernel_rfl) (by kernel_rfl) _) (fun w hw => al12_p3 hoA (by repeat (first | exact .head _ | with_reducible assumption | apply mC)) hw)) (by repeat (first | exact xBg | refine xAv (by repeat (first | exact .head _ | with_reducible assumption | apply mC)) ?_)) ?_ xCm
  simp only [Act.put, kA, kB, List.setIfInBounds_toArray]
  refine f_at [4] (by decide +kernel) rfl ?_
  refine f_is 4 ?_
  refine f_y rfl rfl (xBn rfl (.inr rfl) rfl) (by repeat (first | exact xBg | refine xAv (by repeat (first | exact .head _ | with_reducible assumption | apply mC)) ?_)) ?_ xCm
  simp only [Act.put, kA, kB, List.setIfInBounds_toArray]
  refine fHeads [(b1, .cells (gl 23 11 4 9).toArray 26)] [2, 2, 2, 2, 2, 1, 1, 2, 2] 2 rfl (by repeat (first | exact xBg | refine xAv (by repeat (first | exact .head _ | with_reducible assumption | apply mC)) ?_)) (by repeat (first | exact xBg | refine xAv (by repeat (first | exact .head _ | with_reducible assumption | apply mC)) ?_)) rfl (by decide +kernel) (fun K hK => ?_)
  repeat ((first | (refine xBl ?_) | (refine' xAr (by decide) rfl (.inl rfl) rfl ?ha ?_) | (refine' xAr (by decide) rfl (.inr rfl) rfl ?ha ?_) | (refine' xAp rfl rfl rfl inferInstance ?hm ?hn ?ha ?_; (case hm => first | with_reducible assumption | repeat (first | exact .head _ | with_reducible assumption | apply mC)); (case hn => first | rfl | simp)) | (refine' xAk rfl rfl rfl inferInstance ?hm ?hv ?hn ?ha ?_; (case hm => first | with_reducible assumption | repeat (first | exact .head _ | with_reducible assumption | apply mC)); (case hv => first | with_reducible assumption | (simp only [kC, kD, kE, kF]; try rfl)); (case hn => first | rfl | simp)) | (refine' xAf rfl rfl rfl inferInstance ?hm ?hv ?ha ?_; (case hm => first | with_reducible assumption | repeat (first | exact .head _ | with_reducible assumption | apply mC)); (case hv => first | rfl | with_reducible assumption)) | (refine' xAl rfl rfl rfl inferInstance ?hm ?hv ?hn ?ha ?_; (case hm => first | with_reducible assumption | repeat (first | exact .head _ | with_reducible assumption | apply mC)); (case hv => first | with_reducible assumption | (simp only [kC, kD, kE, kF]; try rfl)); (case hn => first | rfl | simp)) | (refine' xAe rfl rfl rfl inferInstance ?hm ?hv ?ha ?_; (case hm => first | with_reducible assumption | repeat (first | exact .head _ | with_reducible assumption | apply mC)); (case hv => first | rfl | with_reducible assumption)) | ((first | refine' xAd (by decide) rfl rfl rfl rfl (fun w => ?hq) ?ha ?_ | refine' xBb (by decide) rfl rfl rfl rfl (fun w => ?hq) ?ha ?_ | refine' xAm (by decide) rfl rfl rfl (fun w => ?hq) ?ha ?_ | refine' xAc (by decide) rfl rfl rfl (fun w => ?hq) ?ha ?_ | refine' xAo (by decide) rfl rfl rfl (fun w => ?hq) ?ha ?_ | refine' xBd (by decide) rfl rfl rfl rfl (fun w => ?hq) ?ha ?_ | refine' xBa (by decide) rfl rfl rfl rfl rfl rfl (fun w => ?hq) ?ha ?_ | refine' xBe (by decide) rfl rfl (fun w => ?hq) ?ha ?_ | refine' xAn (by decide) rfl rfl rfl (fun w => ?hq) ?ha ?_ | refine' xBc (by decide) rfl rfl rfl (fun w => ?hq) ?ha ?_); (case hq => go_simp; try rfl)) | (refine' xAg (by decide) rfl rfl rfl ?ha ?_) | (refine' xBk (by decide) rfl rfl rfl rfl ?ha ?_) | (refine' xBm (by decide) rfl ?ha ?_) | fail); try (case ha => simp only [kP, kQ, kA, kB]; try rfl))
  refine xBp (hK _ _ ?_)
  clear hK K
  try simp only [Act.put, kA, kB, List.setIfInBounds_toArray]
  refine f_at [7] (by decide +kernel) rfl ?_
  refine f_is 7 ?_
  refine f_y rfl rfl (xBn rfl (.inl rfl) rfl) (by repeat (first | exact xBg | refine xAv (by repeat (first | exact .head _ | with_reducible assumption | apply mC)) ?_)) ?_ xCm
  simp only [Act.put, kA, kB, List.setIfInBounds_toArray]
  refine f_at [8] (by decide +kernel) rfl ?_
  refine f_is 8 ?_
  refine f_y rfl rfl (xBn rfl (.inl rfl) rfl) (by repeat (first | exact xBg | refine xAv (by repeat (first | exact .head _ | with_reducible assumption | apply mC)) ?_)) ?_ xCm
  simp only [Act.put, kA, kB, List.setIfInBounds_toArray]
  refine f_end (by decide +kernel) (fun w hR => ?_)
  simp only [Exit.then]
  refine k5 _ _ ?_
  replace hR := hR.weaken (L' := [_, _]) (.cons _ (.cons _ (List.Sublist.refl _)))
  clear K5 k5 hoA
  go_wp2_with (first | go_skip | (refine' xAb hR rfl rfl rfl ?_; clear hR; intro blk w hR) | (refine' xAa hR rfl rfl inferInstance ?_; clear hR; intro blk w hR) | (refine' aFq hR rfl rfl rfl inferInstance ?_) | (refine' aGq hR rfl rfl rfl inferInstance ?_) | (refine' aHq hR rfl rfl rfl inferInstance ?_) | (refine' aIq hR rfl rfl rfl inferInstance rfl ?_; clear hR; intro w hR) | (refine' aJq hR rfl rfl rfl inferInstance rfl rfl ?_; clear hR; intro w hR) | (refine' xAq hR rfl rfl rfl inferInstance ?hm ?hn ?_; (case hm => first | with_reducible assumption | repeat (first | exact .head _ | with_reducible assumption | apply mC)); (case hn => first | rfl | simp)) | (refine' xAh hR rfl rfl rfl inferInstance ?hm ?hv ?_; (case hm => first | with_reducible assumption | repeat (first | exact .head _ | with_reducible assumption | apply mC)); (case hv => first | rfl | with_reducible assumption)) | (refine' xAs hR rfl rfl rfl inferInstance ?hm ?hv ?hn ?_; (case hm => first | with_reducible assumption | repeat (first | exact .head _ | with_reducible assumption | apply mC)); (case hv => first | with_reducible assumption | (simp only [kC, kD, kE, kF]; try rfl)); (case hn => first | rfl | simp)) | (refine' wpList_consts [(0, .int .u64 6), (1, .int .u64 10), (2, .int .u64 6)] hR rfl rfl (u64s_3 6 10 6) ?_; clear hR; intro bs w hR) | (go_at_call 22; refine (of10_own (us := [6, 10, 6]) (.head _) rfl (by decide) (by decide) (by decide) hR).mono ?_; clear hR; rintro e w ⟨gA, capA, rfl, curA, hoA, hR⟩) | (go_at_call 12; refine (al12_same hoW (by repeat (first | exact .head _ | with_reducible assumption | apply mC)) hoA (.head _) hR).mono ?_; clear hR; rintro e w ⟨rfl, hR⟩))
  go_ret
  exact ⟨rfl, hR.below⟩
end Go.Proofs.Ytgfoeongjhkdmaa
