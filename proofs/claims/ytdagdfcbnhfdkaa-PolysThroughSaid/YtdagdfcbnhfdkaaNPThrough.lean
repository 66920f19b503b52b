/- The walk of balefirelaw10.PolysThrough. -/
import Derived.Test.YtdagdfcbnhfdkaaNPAlive
set_option linter.unusedVariables false
set_option linter.unusedSimpArgs false
namespace Go.Proofs.Ytdagdfcbnhfdkaa
open Go.RowKit
attribute [local irreducible] Calls Instr.build Instr.buildSlice
theorem through_at {q n : Nat} {f V : Nat → Nat} (hok : ptsOK q n f) (hV : ∀ j, j < n → V j < q) (hE : wtE q n f n = 0) {j : Nat} (hj : j < n) : atN q (outF q n f V n) n (f j) = V j := by
  obtain ⟨_, _, h1, hf⟩ := hok
  haveI : NeZero q := ⟨by omega⟩
  refine fi_inj (q := q) (atN_lt h1 _ _ _) (hV j hj) ?_
  rw [fi_atN h1 (fun j _ => outF_lt h1 n j), out_at h1 hf hE hj]
set_option maxRecDepth 100000 in
set_option maxHeartbeats 8000000 in
set_option maxRecDepth 100000 in
theorem polysthrough_walk (W : World) (p q g h : Nat) (hp : p < B) (hq : q < B) (hg : g < B) (hh : h < B) (a : Option Addr) (n cp : Nat) (f : Nat → Nat) (b : Option Addr) (m cq : Nat) (V : Nat → Nat) (S1 : NAt W.heap.size W [] a n cp f) (S2 : NAt W.heap.size W [] b m cq V) :
    Calls Try.prog 5 #[grp p q g h, .slice a n cp, .slice b m cq] W fun e w' => e = .returned (.bool true) ∧ Below W.heap.size W w' := by
  classical
  have hR := Rep.init W
  by_cases h20 : n ≤ 20
  case neg =>
    have t1 : (20 : Int) < (n : Int) := by omega
    clear S1 S2 hp hq hg hh h20
    go_enter Try.func5, Try.ntmps5
    go_wp2_with (first | (refine' xAb hR rfl rfl rfl ?_; clear hR; intro blk w hR) | (refine' xAa hR rfl rfl inferInstance ?_; clear hR; intro blk w hR) | (refine' aFq hR rfl rfl rfl inferInstance ?_) | (refine' aGq hR rfl rfl rfl inferInstance ?_) | (refine' aHq hR rfl rfl rfl inferInstance ?_) | (refine' aIq hR rfl rfl rfl inferInstance rfl ?_; clear hR; intro w hR) | (refine' aJq hR rfl rfl rfl inferInstance rfl rfl ?_; clear hR; intro w hR) | (go_at_call 23; refine (alive10 _).mono ?_; rintro e w ⟨rfl, hb⟩; replace hR := hR.call hb; clear hb))
    go_ret
    exact ⟨rfl, hR.below⟩
  have t1 : ¬ (20 : Int) < (n : Int) := by omega
  by_cases m20 : m ≤ 20
  case neg =>
    have t2 : (20 : Int) < (m : Int) := by omega
    clear S1 S2 hp hq hg hh h20 m20
    go_enter Try.func5, Try.ntmps5
    go_wp2_with (first | (refine' xAb hR rfl rfl rfl ?_; clear hR; intro blk w hR) | (refine' xAa hR rfl rfl inferInstance ?_; clear hR; intro blk w hR) | (refine' aFq hR rfl rfl rfl inferInstance ?_) | (refine' aGq hR rfl rfl rfl inferInstance ?_) | (refine' aHq hR rfl rfl rfl inferInstance ?_) | (refine' aIq hR rfl rfl rfl inferInstance rfl ?_; clear hR; intro w hR) | (refine' aJq hR rfl rfl rfl inferInstance rfl rfl ?_; clear hR; intro w hR) | (go_at_call 23; refine (alive10 _).mono ?_; rintro e w ⟨rfl, hb⟩; replace hR := hR.call hb; clear hb))
    go_ret
    exact ⟨rfl, hR.below⟩
  have t2 : ¬ (20 : Int) < (m : Int) := by omega
  by_cases hok : okT q n m f V
  case neg =>
    have ct := fun (L : List (Nat × Obj)) (w : World) (hw : Rep W.heap.size W L w) => through_no (g := g) (h := h) hp hq (by omega) (by omega) (S1.any (L := L)) (S2.any (L := L)) hok hw
    clear S1 S2 hp hq hg hh h20 m20
    go_enter Try.func5, Try.ntmps5
    go_wp2_with (first | (refine' xAb hR rfl rfl rfl ?_; clear hR; intro blk w hR) | (refine' xAa hR rfl rfl inferInstance ?_; clear hR; intro blk w hR) | (refine' aFq hR rfl rfl rfl inferInstance ?_) | (refine' aGq hR rfl rfl rfl inferInstance ?_) | (refine' aHq hR rfl rfl rfl inferInstance ?_) | (refine' aIq hR rfl rfl rfl inferInstance rfl ?_; clear hR; intro w hR) | (refine' aJq hR rfl rfl rfl inferInstance rfl rfl ?_; clear hR; intro w hR) | (go_at_call 23; refine (alive10 _).mono ?_; rintro e w ⟨rfl, hb⟩; replace hR := hR.call hb; clear hb) | (go_at_call 24; refine (ct _ _ hR).mono ?_; clear hR; rintro e w ⟨rfl, hR⟩))
    go_ret
    exact ⟨rfl, hR.below⟩
  by_cases hE : wtE q n f n = 0
  case neg =>
    have ct := fun (L : List (Nat × Obj)) (w : World) (hw : Rep W.heap.size W L w) => through_err (g := g) (h := h) hp hq (by omega) (S1.any (L := L)) (S2.any (L := L)) hok hE hw
    clear S1 S2 hp hq hg hh h20 m20 hE hok
    go_enter Try.func5, Try.ntmps5
    go_wp2_with (first | (refine' xAb hR rfl rfl rfl ?_; clear hR; intro blk w hR) | (refine' xAa hR rfl rfl inferInstance ?_; clear hR; intro blk w hR) | (refine' aFq hR rfl rfl rfl inferInstance ?_) | (refine' aGq hR rfl rfl rfl inferInstance ?_) | (refine' aHq hR rfl rfl rfl inferInstance ?_) | (refine' aIq hR rfl rfl rfl inferInstance rfl ?_; clear hR; intro w hR) | (refine' aJq hR rfl rfl rfl inferInstance rfl rfl ?_; clear hR; intro w hR) | (go_at_call 23; refine (alive10 _).mono ?_; rintro e w ⟨rfl, hb⟩; replace hR := hR.call hb; clear hb) | (go_at_call 24; refine (ct _ _ hR).mono ?_; clear hR; rintro e w ⟨rfl, hR⟩))
    go_ret
    exact ⟨rfl, hR.below⟩
  have ct := fun (L : List (Nat × Obj)) (w : World) (hw : Rep W.heap.size W L w) => through_yes (g := g) (h := h) hp hq (by omega) (S1.any (L := L)) (S2.any (L := L)) hok hE hw
  obtain ⟨hpts, rfl, hV⟩ := hok
  replace S1 := Held.mk S1
  replace S2 := Held.mk S2
  replace hpts := Held.mk hpts
  replace hV := Held.mk hV
  replace hE := Held.mk hE
  replace h20 := Held.mk h20
  clear hg hh m20
  go_enter Try.func5, Try.ntmps5
  go_wp2_with (first | (refine' xAb hR rfl rfl rfl ?_; clear hR; intro blk w hR) | (refine' xAa hR rfl rfl inferInstance ?_; clear hR; intro blk w hR) | (refine' aFq hR rfl rfl rfl inferInstance ?_) | (refine' aGq hR rfl rfl rfl inferInstance ?_) | (refine' aHq hR rfl rfl rfl inferInstance ?_) | (refine' aIq hR rfl rfl rfl inferInstance rfl ?_; clear hR; intro w hR) | (refine' aJq hR rfl rfl rfl inferInstance rfl rfl ?_; clear hR; intro w hR) | (go_at_call 23; refine (alive10 _).mono ?_; rintro e w ⟨rfl, hb⟩; replace hR := hR.call hb; clear hb) | (go_at_call 24; refine (ct _ _ hR).mono ?_; clear hR; rintro e w ⟨gb, rfl, cur, ho, hR⟩))
  have hm1 : m ≤ 1000 := by have := h20.out; omega
  have hm2 : (m : Int) ≤ 20 := by have := h20.out; omega
  replace hm1 := Held.mk hm1
  replace ho := Held.mk ho
  have hL1 : 1 < q := hpts.out.2.2.1
  replace hL1 := Held.mk hL1
  clear ct
  try simp only [Act.put, kA, kB, List.setIfInBounds_toArray]
  refine' xBy (false :: false :: false :: false :: false :: false :: false :: false :: false :: false :: true :: true :: false :: false :: false :: false :: false :: false :: false :: false :: false :: false :: false :: false :: false :: false :: false :: false :: false :: false :: false :: false :: false :: false :: false :: false :: false :: false :: false :: false :: false :: false :: false :: false :: false :: false :: false :: false :: false :: false :: false :: false :: false :: false :: false :: false :: false :: true :: true :: true :: true :: true :: true :: true :: true :: true :: true :: true :: true :: true :: true :: true :: true :: true :: true :: true :: true :: true :: true :: true :: true :: true :: true :: []) (fun (i : Nat) l => l.set 9 (.int .i64 (i : Int))) (fun i => [(gb, .cells cur.toArray 24), (blk, .cells (gl p q g h).toArray 35)]) (fun i => m - i) (fun i => i ≤ m) 0 ?h0 ?hO ?hR ?hs
  case h0 => exact xBe rfl rfl rfl
  case hO => exact Nat.zero_le _
  case hR => exact hR
  case hs =>
    clear hR
    intro i tm w hi ht hR K hK
    have g0 : 0 ≤ (i : Int) := by omega
    by_cases hik : i = m
    · subst hik
      clear hK
      have u1 : ¬ (i : Int) < (i : Int) := by omega
      repeat (first | (obtain ⟨x, tm', e, ht'⟩ := xAs ht; clear ht; subst e; have ht := ht'; clear ht') | (obtain ⟨tm', e, ht'⟩ := xAp ht; clear ht; subst e; have ht := ht'; clear ht'))
      obtain rfl := xBc ht
      clear ht
      go_wp2_with (first | (refine' xAb hR rfl rfl rfl ?_; clear hR; intro blk w hR) | (refine' xAa hR rfl rfl inferInstance ?_; clear hR; intro blk w hR) | (refine' aFq hR rfl rfl rfl inferInstance ?_) | (refine' aGq hR rfl rfl rfl inferInstance ?_) | (refine' aHq hR rfl rfl rfl inferInstance ?_) | (refine' aIq hR rfl rfl rfl inferInstance rfl ?_; clear hR; intro w hR) | (refine' aJq hR rfl rfl rfl inferInstance rfl rfl ?_; clear hR; intro w hR) | fail)
      go_ret
      exact ⟨rfl, hR.below⟩
    have g1 : (i : Int) < (m : Int) := by omega
    have him : i < m := by omega
    have ei : IntKind.i64.wrap ((i : Int) + 1) = ((i + 1 : Nat) : Int) := by rw [IntKind.wrap_i64]; omega
    have hi1 : i + 1 ≤ m := by omega
    have hmu : m - (i + 1) < m - i := by omega
    replace hi1 := Held.mk hi1
    replace hmu := Held.mk hmu
    have hval := through_at hpts.out hV.out hE.out him
    have hfi : f i < q := hpts.out.2.2.2 i him
    have lV := hV.out i him
    have cA : ∀ (L : List (Nat × Obj)) (w : World), (gb, Obj.cells cur.toArray 24) ∈ L → Rep W.heap.size W L w → Calls Try.prog 25 #[grp p q g h, .slice (some ⟨gb, 0, none⟩) m m, num (f i)] w fun e w' => e = .returned (.tuple #[num (V i), .int .i64 0]) ∧ Rep W.heap.size W L w' := fun L w hmm hw => by
      have := at_yes (g := g) (h := h) hp hq hm1.out (ho.out.at (B0 := W.heap.size) (w0 := W) hmm (Nat.le_refl _) fun j _ => Nat.lt_trans (outF_lt hL1.out m j) hq) ⟨⟨hL1.out, fun j _ => outF_lt hL1.out m j⟩, hfi⟩ hw
      rw [hval] at this
      exact this
    obtain ⟨ba, oa, rfl, hya⟩ := S1.out.at' (by omega)
    obtain ⟨bv, ov, rfl, hyv⟩ := S2.out.at' (by omega)
    have ldf := fun (L : List (Nat × Obj)) (w : World) (hw : Rep W.heap.size W L w) => xCe (hya w (hw.weaken (List.nil_sublist _)) i him)
    have ldv := fun (L : List (Nat × Obj)) (w : World) (hw : Rep W.heap.size W L w) => xCe (hyv w (hw.weaken (List.nil_sublist _)) i him)
    have qv := eqN_self (V i)
    generalize V i = y at cA ldv qv
    generalize f i = x at cA ldf
    clear hval hfi lV hya hyv hi hik
    repeat (first | (obtain ⟨x, tm', e, ht'⟩ := xAs ht; clear ht; subst e; have ht := ht'; clear ht') | (obtain ⟨tm', e, ht'⟩ := xAp ht; clear ht; subst e; have ht := ht'; clear ht'))
    obtain rfl := xBc ht
    clear ht
    go_wp2_with (first | (refine' xAb hR rfl rfl rfl ?_; clear hR; intro blk w hR) | (refine' xAa hR rfl rfl inferInstance ?_; clear hR; intro blk w hR) | (refine' aFq hR rfl rfl rfl inferInstance ?_) | (refine' aGq hR rfl rfl rfl inferInstance ?_) | (refine' aHq hR rfl rfl rfl inferInstance ?_) | (refine' aIq hR rfl rfl rfl inferInstance rfl ?_; clear hR; intro w hR) | (refine' aJq hR rfl rfl rfl inferInstance rfl rfl ?_; clear hR; intro w hR) | fail)
    try simp only [Act.put, kA, kB, List.setIfInBounds_toArray]
    refine cut_code (fun l tm w' => ∃ c, agree (false :: false :: false :: false :: false :: false :: false :: false :: false :: false :: false :: false :: false :: false :: false :: false :: false :: false :: false :: false :: false :: false :: false :: false :: false :: false :: false :: false :: false :: false :: false :: false :: false :: false :: false :: false :: false :: false :: false :: false :: false :: false :: false :: false :: false :: false :: false :: false :: false :: false :: false :: false :: false :: false :: false :: false :: false :: false :: false :: false :: false :: false :: false :: true :: true :: true :: true :: true :: true :: true :: true :: true :: true :: false :: false :: false :: false :: false :: false :: false :: false :: false :: false :: []) ((l.set 10 (.pointer (some ⟨c, 0, none⟩))).set 11 (.int .i64 0)) tm ∧ Rep W.heap.size W [(c, .cells (nl y).toArray 24), (gb, .cells cur.toArray 24), (blk, .cells (gl p q g h).toArray 35)] w') ?r1 ?r2
    case r1 =>
      intro Q' hQ'
      refine xCa hR 13 xCl rfl ?_
      clear hR
      refine xCt [(blk, .cells (gl p q g h).toArray 35)] [1, 1, 1, 1, 1, 1, 2, 2, 2, 2, 2, 2, 2] 7 rfl (by repeat (first | exact xAr | refine xAe (by repeat (first | exact .head _ | with_reducible assumption | apply mC)) ?_)) (by repeat (first | exact xAr | refine xAe (by repeat (first | exact .head _ | with_reducible assumption | apply mC)) ?_)) rfl (by decide +kernel) (fun K hK => ?_)
      repeat ((first | (refine' hd_keepAll rfl rfl rfl inferInstance ?hm ?hn ?ha ?_; (case hm => exact .head _); (case hn => rfl)) | (refine' hd_loadKP rfl rfl rfl ldf ?ha ?_) | (refine xBf ?_) | (refine' xAo (by decide) rfl (.inl rfl) rfl ?ha ?_) | (refine' xAo (by decide) rfl (.inr rfl) rfl ?ha ?_) | (refine' xAn rfl rfl rfl inferInstance ?hm ?hn ?ha ?_; (case hm => first | with_reducible assumption | repeat (first | exact .head _ | with_reducible assumption | apply mC)); (case hn => first | rfl | simp)) | (refine' xAj rfl rfl rfl inferInstance ?hm ?hv ?hn ?ha ?_; (case hm => first | with_reducible assumption | repeat (first | exact .head _ | with_reducible assumption | apply mC)); (case hv => first | with_reducible assumption | (simp only [kC, kD, kE, kF]; try rfl)); (case hn => first | rfl | simp)) | (refine' xAf rfl rfl rfl inferInstance ?hm ?hv ?ha ?_; (case hm => first | with_reducible assumption | repeat (first | exact .head _ | with_reducible assumption | apply mC)); (case hv => first | rfl | with_reducible assumption)) | (refine' xAi rfl rfl rfl inferInstance ?hm ?hv ?hn ?ha ?_; (case hm => first | with_reducible assumption | repeat (first | exact .head _ | with_reducible assumption | apply mC)); (case hv => first | with_reducible assumption | (simp only [kC, kD, kE, kF]; try rfl)); (case hn => first | rfl | simp)) | (refine' xAg rfl rfl rfl inferInstance ?hm ?hv ?ha ?_; (case hm => first | with_reducible assumption | repeat (first | exact .head _ | with_reducible assumption | apply mC)); (case hv => first | rfl | with_reducible assumption)) | ((first | refine' xAc (by decide) rfl rfl rfl rfl (fun w => ?hq) ?ha ?_ | refine' xBb (by decide) rfl rfl rfl rfl (fun w => ?hq) ?ha ?_ | refine' xAm (by decide) rfl rfl rfl (fun w => ?hq) ?ha ?_ | refine' xAd (by decide) rfl rfl rfl (fun w => ?hq) ?ha ?_ | refine' xAl (by decide) rfl rfl rfl (fun w => ?hq) ?ha ?_ | refine' xAz (by decide) rfl rfl rfl rfl (fun w => ?hq) ?ha ?_ | refine' xAw (by decide) rfl rfl rfl rfl rfl rfl (fun w => ?hq) ?ha ?_ | refine' xBa (by decide) rfl rfl (fun w => ?hq) ?ha ?_ | refine' xAk (by decide) rfl rfl rfl (fun w => ?hq) ?ha ?_ | refine' xAy (by decide) rfl rfl rfl (fun w => ?hq) ?ha ?_); (case hq => go_simp; try rfl)) | (refine' xAh (by decide) rfl rfl rfl ?ha ?_) | (refine' xBg (by decide) rfl rfl rfl rfl ?ha ?_) | (refine' xBh (by decide) rfl ?ha ?_)); try (case ha => simp only [kP, kQ, kA, kB]; try rfl))
      refine xBn (hK _ _ ?_)
      clear hK K
      try simp only [Act.put, kA, kB, List.setIfInBounds_toArray]
      refine f_at [6, 10] (by decide +kernel) rfl ?_
      refine f_is 6 ?_
      refine f_y rfl rfl (xBz rfl rfl rfl (xBj Try.func25 (by kernel_rfl) (by kernel_rfl) _) (fun w hw => cA _ _ (by repeat (first | exact .head _ | with_reducible assumption | apply mC)) hw)) (by repeat (first | exact xAr | refine xAe (by repeat (first | exact .head _ | with_reducible assumption | apply mC)) ?_)) ?_ ?_
      · simp only [Act.put, kA, kB, List.setIfInBounds_toArray]
        (refine xCt [(blk, .cells (gl p q g h).toArray 35)] [2, 2, 2, 2, 2, 2, 2, 1, 1, 1, 2, 2, 2] 3 rfl (by repeat (first | exact xAr | refine xAe (by repeat (first | exact .head _ | with_reducible assumption | apply mC)) ?_)) (by repeat (first | exact xAr | refine xAe (by repeat (first | exact .head _ | with_reducible assumption | apply mC)) ?_)) rfl (by decide +kernel) (fun K hK => ?_); (repeat ((first | (refine xBf ?_) | (refine' xAo (by decide) rfl (.inl rfl) rfl ?ha ?_) | (refine' xAo (by decide) rfl (.inr rfl) rfl ?ha ?_) | (refine' xAn rfl rfl rfl inferInstance ?hm ?hn ?ha ?_; (case hm => first | with_reducible assumption | repeat (first | exact .head _ | with_reducible assumption | apply mC)); (case hn => first | rfl | simp)) | (refine' xAj rfl rfl rfl inferInstance ?hm ?hv ?hn ?ha ?_; (case hm => first | with_reducible assumption | repeat (first | exact .head _ | with_reducible assumption | apply mC)); (case hv => first | with_reducible assumption | (simp only [kC, kD, kE, kF]; try rfl)); (case hn => first | rfl | simp)) | (refine' xAf rfl rfl rfl inferInstance ?hm ?hv ?ha ?_; (case hm => first | with_reducible assumption | repeat (first | exact .head _ | with_reducible assumption | apply mC)); (case hv => first | rfl | with_reducible assumption)) | (refine' xAi rfl rfl rfl inferInstance ?hm ?hv ?hn ?ha ?_; (case hm => first | with_reducible assumption | repeat (first | exact .head _ | with_reducible assumption | apply mC)); (case hv => first | with_reducible assumption | (simp only [kC, kD, kE, kF]; try rfl)); (case hn => first | rfl | simp)) | (refine' xAg rfl rfl rfl inferInstance ?hm ?hv ?ha ?_; (case hm => first | with_reducible assumption | repeat (first | exact .head _ | with_reducible assumption | apply mC)); (case hv => first | rfl | with_reducible assumption)) | ((first | refine' xAc (by decide) rfl rfl rfl rfl (fun w => ?hq) ?ha ?_ | refine' xBb (by decide) rfl rfl rfl rfl (fun w => ?hq) ?ha ?_ | refine' xAm (by decide) rfl rfl rfl (fun w => ?hq) ?ha ?_ | refine' xAd (by decide) rfl rfl rfl (fun w => ?hq) ?ha ?_ | refine' xAl (by decide) rfl rfl rfl (fun w => ?hq) ?ha ?_ | refine' xAz (by decide) rfl rfl rfl rfl (fun w => ?hq) ?ha ?_ | refine' xAw (by decide) rfl rfl rfl rfl rfl rfl (fun w => ?hq) ?ha ?_ | refine' xBa (by decide) rfl rfl (fun w => ?hq) ?ha ?_ | refine' xAk (by decide) rfl rfl rfl (fun w => ?hq) ?ha ?_ | refine' xAy (by decide) rfl rfl rfl (fun w => ?hq) ?ha ?_); (case hq => go_simp; try rfl)) | (refine' xAh (by decide) rfl rfl rfl ?ha ?_) | (refine' xBg (by decide) rfl rfl rfl rfl ?ha ?_) | (refine' xBh (by decide) rfl ?ha ?_) | fail); try (case ha => simp only [kP, kQ, kA, kB]; try rfl))); refine xBn (hK _ _ ?_); clear hK K)
        try simp only [Act.put, kA, kB, List.setIfInBounds_toArray]
        refine f_at [10] (by decide +kernel) rfl ?_
        refine f_is 10 ?_
        refine f_new rfl rfl (isNew_allocR rfl rfl) (by repeat (first | exact xAr | refine xAe (by repeat (first | exact .head _ | with_reducible assumption | apply mC)) ?_)) (fun c => ?_) xCg
        simp only [Act.put, kA, kB, List.setIfInBounds_toArray]
        refine f_at [11] (by decide +kernel) rfl ?_
        refine f_is 11 ?_
        refine' f_s rfl rfl (xCo (l := [.int .u64 0, .int .u64 0, .int .u64 0, .int .u64 0]) rfl rfl rfl inferInstance rfl rfl rfl rfl ?hs) ?hk ?_ xCg
        (case hs => repeat (first | exact xAu.head | with_reducible assumption | apply xAu.tail))
        (case hk => repeat (first | exact xAr | refine xAe (by repeat (first | exact .head _ | with_reducible assumption | apply mC)) ?_))
        refine f_at [12] (by decide +kernel) rfl ?_
        refine f_is 12 ?_
        refine f_y rfl rfl (xBi rfl (.inl rfl) rfl) (by repeat (first | exact xAr | refine xAe (by repeat (first | exact .head _ | with_reducible assumption | apply mC)) ?_)) ?_ xCg
        simp only [Act.put, kA, kB, List.setIfInBounds_toArray]
        refine f_end (by decide +kernel) (fun w hR => ?_)
        simp only [Exit.then]
        exact hQ'.out _ _ ⟨c, xBe rfl rfl rfl, hR⟩
      · refine f_is 10 ?_
        refine f_new rfl rfl (isNew_allocR rfl rfl) (by repeat (first | exact xAr | refine xAe (by repeat (first | exact .head _ | with_reducible assumption | apply mC)) ?_)) (fun c => ?_) xCg
        simp only [Act.put, kA, kB, List.setIfInBounds_toArray]
        refine f_at [6] (by decide +kernel) rfl ?_
        refine f_is 6 ?_
        refine f_y rfl rfl (xBz rfl rfl rfl (xBj Try.func25 (by kernel_rfl) (by kernel_rfl) _) (fun w hw => cA _ _ (by repeat (first | exact .head _ | with_reducible assumption | apply mC)) hw)) (by repeat (first | exact xAr | refine xAe (by repeat (first | exact .head _ | with_reducible assumption | apply mC)) ?_)) ?_ xCg
        simp only [Act.put, kA, kB, List.setIfInBounds_toArray]
        (refine xCt [(blk, .cells (gl p q g h).toArray 35)] [2, 2, 2, 2, 2, 2, 2, 1, 1, 1, 2, 2, 2] 2 rfl (by repeat (first | exact xAr | refine xAe (by repeat (first | exact .head _ | with_reducible assumption | apply mC)) ?_)) (by repeat (first | exact xAr | refine xAe (by repeat (first | exact .head _ | with_reducible assumption | apply mC)) ?_)) rfl (by decide +kernel) (fun K hK => ?_); (repeat ((first | (refine xBf ?_) | (refine' xAo (by decide) rfl (.inl rfl) rfl ?ha ?_) | (refine' xAo (by decide) rfl (.inr rfl) rfl ?ha ?_) | (refine' xAn rfl rfl rfl inferInstance ?hm ?hn ?ha ?_; (case hm => first | with_reducible assumption | repeat (first | exact .head _ | with_reducible assumption | apply mC)); (case hn => first | rfl | simp)) | (refine' xAj rfl rfl rfl inferInstance ?hm ?hv ?hn ?ha ?_; (case hm => first | with_reducible assumption | repeat (first | exact .head _ | with_reducible assumption | apply mC)); (case hv => first | with_reducible assumption | (simp only [kC, kD, kE, kF]; try rfl)); (case hn => first | rfl | simp)) | (refine' xAf rfl rfl rfl inferInstance ?hm ?hv ?ha ?_; (case hm => first | with_reducible assumption | repeat (first | exact .head _ | with_reducible assumption | apply mC)); (case hv => first | rfl | with_reducible assumption)) | (refine' xAi rfl rfl rfl inferInstance ?hm ?hv ?hn ?ha ?_; (case hm => first | with_reducible assumption | repeat (first | exact .head _ | with_reducible assumption | apply mC)); (case hv => first | with_reducible assumption | (simp only [kC, kD, kE, kF]; try rfl)); (case hn => first | rfl | simp)) | (refine' xAg rfl rfl rfl inferInstance ?hm ?hv ?ha ?_; (case hm => first | with_reducible assumption | repeat (first | exact .head _ | with_reducible assumption | apply mC)); (case hv => first | rfl | with_reducible assumption)) | ((first | refine' xAc (by decide) rfl rfl rfl rfl (fun w => ?hq) ?ha ?_ | refine' xBb (by decide) rfl rfl rfl rfl (fun w => ?hq) ?ha ?_ | refine' xAm (by decide) rfl rfl rfl (fun w => ?hq) ?ha ?_ | refine' xAd (by decide) rfl rfl rfl (fun w => ?hq) ?ha ?_ | refine' xAl (by decide) rfl rfl rfl (fun w => ?hq) ?ha ?_ | refine' xAz (by decide) rfl rfl rfl rfl (fun w => ?hq) ?ha ?_ | refine' xAw (by decide) rfl rfl rfl rfl rfl rfl (fun w => ?hq) ?ha ?_ | refine' xBa (by decide) rfl rfl (fun w => ?hq) ?ha ?_ | refine' xAk (by decide) rfl rfl rfl (fun w => ?hq) ?ha ?_ | refine' xAy (by decide) rfl rfl rfl (fun w => ?hq) ?ha ?_); (case hq => go_simp; try rfl)) | (refine' xAh (by decide) rfl rfl rfl ?ha ?_) | (refine' xBg (by decide) rfl rfl rfl rfl ?ha ?_) | (refine' xBh (by decide) rfl ?ha ?_) | fail); try (case ha => simp only [kP, kQ, kA, kB]; try rfl))); refine xBn (hK _ _ ?_); clear hK K)
        try simp only [Act.put, kA, kB, List.setIfInBounds_toArray]
        refine f_at [11] (by decide +kernel) rfl ?_
        refine f_is 11 ?_
        refine' f_s rfl rfl (xCo (l := [.int .u64 0, .int .u64 0, .int .u64 0, .int .u64 0]) rfl rfl rfl inferInstance rfl rfl rfl rfl ?hs) ?hk ?_ xCg
        (case hs => repeat (first | exact xAu.head | with_reducible assumption | apply xAu.tail))
        (case hk => repeat (first | exact xAr | refine xAe (by repeat (first | exact .head _ | with_reducible assumption | apply mC)) ?_))
        refine f_at [12] (by decide +kernel) rfl ?_
        refine f_is 12 ?_
        refine f_y rfl rfl (xBi rfl (.inl rfl) rfl) (by repeat (first | exact xAr | refine xAe (by repeat (first | exact .head _ | with_reducible assumption | apply mC)) ?_)) ?_ xCg
        simp only [Act.put, kA, kB, List.setIfInBounds_toArray]
        refine f_end (by decide +kernel) (fun w hR => ?_)
        simp only [Exit.then]
        exact hQ'.out _ _ ⟨c, xBe rfl rfl rfl, hR⟩
    case r2 =>
      clear hR
      rename_i K5 k5
      rintro tm w ⟨c, ht, hR⟩
      repeat (first | (obtain ⟨x, tm', e, ht'⟩ := xAs ht; clear ht; subst e; have ht := ht'; clear ht') | (obtain ⟨tm', e, ht'⟩ := xAp ht; clear ht; subst e; have ht := ht'; clear ht'))
      obtain rfl := xBc ht
      clear ht
      simp only [Exit.then]
      refine k5 _ _ ?_
      clear cA ldf
      go_wp2_with (first | (refine' xAb hR rfl rfl rfl ?_; clear hR; intro blk w hR) | (refine' xAa hR rfl rfl inferInstance ?_; clear hR; intro blk w hR) | (refine' aFq hR rfl rfl rfl inferInstance ?_) | (refine' aGq hR rfl rfl rfl inferInstance ?_) | (refine' aHq hR rfl rfl rfl inferInstance ?_) | (refine' aIq hR rfl rfl rfl inferInstance rfl ?_; clear hR; intro w hR) | (refine' aJq hR rfl rfl rfl inferInstance rfl rfl ?_; clear hR; intro w hR) | fail)
      have lv0 := fun (w : World) (hw : Rep W.heap.size W [(c, .cells (nl y).toArray 24), (gb, .cells cur.toArray 24), (blk, .cells (gl p q g h).toArray 35)] w) => ldv _ w hw
      clear ldv
      refine xAq hR [0, 0, 0, 0, 0, 0, 0, 0, 0, 0] [] xCl (by kernel_rfl) rfl rfl (fun K hK => ?_)
      clear hR
      repeat ((first | (refine' xCh rfl rfl rfl lv0 ?ha ?_; (case ha => simp only [kP, kQ, kA, kB]; try rfl)) | (refine xBf ?_) | (refine' xAo (by decide) rfl (.inl rfl) rfl ?ha ?_) | (refine' xAo (by decide) rfl (.inr rfl) rfl ?ha ?_) | (refine' xAn rfl rfl rfl inferInstance ?hm ?hn ?ha ?_; (case hm => first | with_reducible assumption | repeat (first | exact .head _ | with_reducible assumption | apply mC)); (case hn => first | rfl | simp)) | (refine' xAj rfl rfl rfl inferInstance ?hm ?hv ?hn ?ha ?_; (case hm => first | with_reducible assumption | repeat (first | exact .head _ | with_reducible assumption | apply mC)); (case hv => first | with_reducible assumption | (simp only [kC, kD, kE, kF]; try rfl)); (case hn => first | rfl | simp)) | (refine' xAf rfl rfl rfl inferInstance ?hm ?hv ?ha ?_; (case hm => first | with_reducible assumption | repeat (first | exact .head _ | with_reducible assumption | apply mC)); (case hv => first | rfl | with_reducible assumption)) | (refine' xAi rfl rfl rfl inferInstance ?hm ?hv ?hn ?ha ?_; (case hm => first | with_reducible assumption | repeat (first | exact .head _ | with_reducible assumption | apply mC)); (case hv => first | with_reducible assumption | (simp only [kC, kD, kE, kF]; try rfl)); (case hn => first | rfl | simp)) | (refine' xAg rfl rfl rfl inferInstance ?hm ?hv ?ha ?_; (case hm => first | with_reducible assumption | repeat (first | exact .head _ | with_reducible assumption | apply mC)); (case hv => first | rfl | with_reducible assumption)) | ((first | refine' xAc (by decide) rfl rfl rfl rfl (fun w => ?hq) ?ha ?_ | refine' xBb (by decide) rfl rfl rfl rfl (fun w => ?hq) ?ha ?_ | refine' xAm (by decide) rfl rfl rfl (fun w => ?hq) ?ha ?_ | refine' xAd (by decide) rfl rfl rfl (fun w => ?hq) ?ha ?_ | refine' xAl (by decide) rfl rfl rfl (fun w => ?hq) ?ha ?_ | refine' xAz (by decide) rfl rfl rfl rfl (fun w => ?hq) ?ha ?_ | refine' xAw (by decide) rfl rfl rfl rfl rfl rfl (fun w => ?hq) ?ha ?_ | refine' xBa (by decide) rfl rfl (fun w => ?hq) ?ha ?_ | refine' xAk (by decide) rfl rfl rfl (fun w => ?hq) ?ha ?_ | refine' xAy (by decide) rfl rfl rfl (fun w => ?hq) ?ha ?_); (case hq => go_simp; try rfl)) | (refine' xAh (by decide) rfl rfl rfl ?ha ?_) | (refine' xBg (by decide) rfl rfl rfl rfl ?ha ?_) | (refine' xBh (by decide) rfl ?ha ?_)); try (case ha => simp only [kP, kQ, kA, kB]; try rfl))
      refine xBn (hK _ _ ?_)
      clear hK K
      refine xBx (fun Q hQ => ?_)
      try simp only [List.nil_append, List.cons_append]
      repeat ((first | refine' xBd rfl (.inl rfl) rfl ?hk ?ha ?_ | refine' xBd rfl (.inr rfl) rfl ?hk ?ha ?_ | (refine' xAx rfl rfl rfl inferInstance rfl ?hs rfl rfl ?hn ?hk ?ha ?_; (case hs => repeat (first | exact xAu.head | with_reducible assumption | apply xAu.tail)); (case hn => first | rfl | simp)) | (refine' xAt rfl rfl rfl inferInstance rfl rfl ?hs ?hn ?hl ?hk ?ha ?_; (case hs => repeat (first | exact xAu.head | with_reducible assumption | apply xAu.tail)); (case hn => first | exact oD rfl | (show _ < 4; with_reducible assumption) | (simp; try omega)); (case hl => first | with_reducible assumption | (simp only [nl, kA, kB]; first | done | rfl) | rfl)) | (refine' xAv rfl rfl rfl inferInstance rfl rfl ?hvn ?hs ?hn ?hl ?hk ?ha ?_; (case hvn => first | rfl | simp); (case hs => repeat (first | exact xAu.head | with_reducible assumption | apply xAu.tail)); (case hn => first | exact oD rfl | (show _ < 4; with_reducible assumption) | (simp; try omega)); (case hl => first | with_reducible assumption | (simp only [nl, kA, kB]; first | done | rfl) | rfl)) | (refine' xBq rfl (fun w => ?hq) ?hk ?ha ?_; (case hq => go_simp; try rfl))); (case hk => intro p hp; first | exact absurd hp List.not_mem_nil | (obtain rfl := List.mem_singleton.1 hp; repeat (first | exact List.Mem.head _ | with_reducible assumption | apply mC))); (case ha => simp only [kP, kQ, kA, kB]; try rfl))
      refine xBw (fun w hR => hQ _ _ ?_)
      clear hQ Q
      go_wp2_with (first | (refine' xAb hR rfl rfl rfl ?_; clear hR; intro blk w hR) | (refine' xAa hR rfl rfl inferInstance ?_; clear hR; intro blk w hR) | (refine' aFq hR rfl rfl rfl inferInstance ?_) | (refine' aGq hR rfl rfl rfl inferInstance ?_) | (refine' aHq hR rfl rfl rfl inferInstance ?_) | (refine' aIq hR rfl rfl rfl inferInstance rfl ?_; clear hR; intro w hR) | (refine' aJq hR rfl rfl rfl inferInstance rfl rfl ?_; clear hR; intro w hR) | fail)
      refine hK.out (i + 1) _ _ hi1.out hmu.out (xBe rfl rfl rfl) ?_
      exact hR.drop1
end Go.Proofs.Ytdagdfcbnhfdkaa
