/- The contracts of groups.may, Mul, Inv, Exp, In. -/
import Derived.Test.YthbcgcncoggagaaVT
import Derived.WalkKit
import Derived.WalkSpells
import Derived.WalkLawsBesides
import Derived.Outline
set_option linter.unusedVariables false
set_option linter.unusedSimpArgs false
namespace Go.Proofs.Ythbcgcncoggagaa
open Go.RowKit
attribute [local irreducible] Calls
def mayG (p a : Nat) : Prop := 1 < p ∧ a ≠ 0 ∧ a < p
instance (p a : Nat) : Decidable (mayG p a) := by unfold mayG; infer_instance
theorem z_num : num 0 = Value.agg #[.int .u64 0, .int .u64 0, .int .u64 0, .int .u64 0] := num_zero.symm
section
variable {p q g h a b r : Nat} {e : Int} {s : Bool}
set_option maxRecDepth 100000 in
set_option maxHeartbeats 2000000 in
theorem may_lit (hp : p < B) (ha : a < B) (hs : decide (mayG p a) = s) (w : World) : Calls Try.prog 112 #[grp p q g h, num a] w fun e' w' =>
    e' = .returned (.bool s) ∧ Below w.heap.size w w' := by
  have tp := gl_p p q g h
  obtain ⟨n0, h0⟩ : ∃ n, n = 0 := ⟨_, rfl⟩
  obtain ⟨n1, h1⟩ : ∃ n, n = 1 := ⟨_, rfl⟩
  have o0 : ∀ w, Calls Try.prog 57 #[.int .u64 0] w fun e w' => e = .returned (num n0) ∧ Below w.heap.size w w' := fun w => by
    rw [h0]; exact of_any 0 (by decide) w
  have o1 : ∀ w, Calls Try.prog 57 #[.int .u64 1] w fun e w' => e = .returned (num n1) ∧ Below w.heap.size w w' := fun w => by
    rw [h1]; exact of_any 1 (by decide) w
  have L0 : n0 < B := lt_B (by omega)
  have L1 : n1 < B := lt_B (by omega)
  have c1 := xCi hp L1 rfl
  have c2 := xCi ha hp rfl
  have k1 := cmpN_gt p n1
  have k2 := cmpN_lt a p
  have hc : (decide (0 < cmpN p n1) = false ∧ s = false) ∨ (decide (0 < cmpN p n1) = true ∧ eqN a n0 = true ∧ s = false) ∨ (decide (0 < cmpN p n1) = true ∧ eqN a n0 = false ∧ decide (cmpN a p < 0) = false ∧ s = false) ∨ (decide (0 < cmpN p n1) = true ∧ eqN a n0 = false ∧ decide (cmpN a p < 0) = true ∧ s = true) := by
    by_cases x1 : 1 < p
    · by_cases x2 : a = 0
      · exact .inr (.inl ⟨decide_eq_true (k1.mpr (by omega)), eqN_yes (by omega), by rw [← hs]; exact decide_eq_false fun h => h.2.1 x2⟩)
      · by_cases x3 : a < p
        · exact .inr (.inr (.inr ⟨decide_eq_true (k1.mpr (by omega)), eqN_no ha L0 (by omega), decide_eq_true (k2.mpr x3), by rw [← hs]; exact decide_eq_true ⟨x1, x2, x3⟩⟩))
        · exact .inr (.inr (.inl ⟨decide_eq_true (k1.mpr (by omega)), eqN_no ha L0 (by omega), decide_eq_false (fun h => x3 (k2.mp h)), by rw [← hs]; exact decide_eq_false fun h => x3 h.2.2⟩))
    · exact .inl ⟨decide_eq_false (fun h => x1 (by have := k1.mp h; omega)), by rw [← hs]; exact decide_eq_false fun h => x1 h.1⟩
  generalize cmpN p n1 = x1 at *
  generalize cmpN a p = x2 at *
  clear hs k1 k2 h0 h1 L0 L1
  have hR := Rep.init w
  rcases hc with ⟨j1, rfl⟩ | ⟨j1, j2, rfl⟩ | ⟨j1, j2, j3, rfl⟩ | ⟨j1, j2, j3, rfl⟩
  all_goals
    go_enter Try.func112, Try.ntmps112
    go_wp2_with (first | (refine' xAe hR rfl rfl rfl ?_; clear hR; intro blk w hR) | (refine' xAb hR rfl rfl inferInstance ?_; clear hR; intro blk w hR) | (refine' xAc hR rfl rfl rfl inferInstance ?hm ?hn ?_; (case hm => first | with_reducible assumption | repeat (first | exact .head _ | apply mT)); (case hn => first | rfl | simp)) | (refine' xAd hR rfl rfl rfl inferInstance ?hm ?hv ?hn ?_; (case hm => first | with_reducible assumption | repeat (first | exact .head _ | apply mT)); (case hv => first | with_reducible assumption | (simp only [kC, kD, kE, kF]; try rfl)); (case hn => first | rfl | simp)) | (refine' xBg hR rfl rfl rfl inferInstance ?hm ?hv ?_; (case hm => first | with_reducible assumption | repeat (first | exact .head _ | apply mT)); (case hv => first | rfl | with_reducible assumption)) | (refine' xAa hR rfl rfl rfl inferInstance rfl ?hs ?zone ?zvn ?hn ?_; (case hs => repeat (first | exact xAf.head | apply xAf.tail)); (case zone => first | rfl | with_reducible assumption); (case zvn => first | rfl | simp); (case hn => first | rfl | simp); clear hR; intro w hR) | (refine' xBe hR rfl rfl rfl inferInstance rfl rfl ?hs ?hn ?hl ?_; (case hs => repeat (first | exact xAf.head | apply xAf.tail)); (case hn => first | exact oD rfl | (show _ < 4; with_reducible assumption) | (simp; try omega)); (case hl => first | with_reducible assumption | (simp only [nl, kA, kB]; first | done | rfl) | rfl); clear hR; intro w hR) | fail)
    refine xAn hR [0, 0, 0, 0, 0, 0, 0, 0, 0, 0, 0, 0, 0, 0, 0, 0, 0, 2] [] mixed (by kernel_rfl) rfl rfl (fun K hK => ?_)
    clear hR
    repeat ((first | (refine xBq ?_) | (refine' xAx (by decide) rfl (.inl rfl) rfl ?ha ?_) | (refine' xAx (by decide) rfl (.inr rfl) rfl ?ha ?_) | (refine' xAt rfl rfl rfl inferInstance ?hm ?hn ?ha ?_; (case hm => first | with_reducible assumption | repeat (first | exact .head _ | apply mT)); (case hn => first | rfl | simp)) | (refine' xAr rfl rfl rfl inferInstance ?hm ?hv ?hn ?ha ?_; (case hm => first | with_reducible assumption | repeat (first | exact .head _ | apply mT)); (case hv => first | with_reducible assumption | (simp only [kC, kD, kE, kF]; try rfl)); (case hn => first | rfl | simp)) | (refine' xAk rfl rfl rfl inferInstance ?hm ?hv ?ha ?_; (case hm => first | with_reducible assumption | repeat (first | exact .head _ | apply mT)); (case hv => first | rfl | with_reducible assumption)) | (refine' xAq rfl rfl rfl inferInstance ?hm ?hv ?hn ?ha ?_; (case hm => first | with_reducible assumption | repeat (first | exact .head _ | apply mT)); (case hv => first | with_reducible assumption | (simp only [kC, kD, kE, kF]; try rfl)); (case hn => first | rfl | simp)) | (refine' xAm rfl rfl rfl inferInstance ?hm ?hv ?ha ?_; (case hm => first | with_reducible assumption | repeat (first | exact .head _ | apply mT)); (case hv => first | rfl | with_reducible assumption)) | ((first | refine' xAi (by decide) rfl rfl rfl rfl (fun w => ?hq) ?ha ?_ | refine' xBk (by decide) rfl rfl rfl rfl (fun w => ?hq) ?ha ?_ | refine' xAw (by decide) rfl rfl rfl (fun w => ?hq) ?ha ?_ | refine' xAh (by decide) rfl rfl rfl (fun w => ?hq) ?ha ?_ | refine' xAu (by decide) rfl rfl rfl (fun w => ?hq) ?ha ?_ | refine' xBl (by decide) rfl rfl rfl rfl (fun w => ?hq) ?ha ?_ | refine' xBj (by decide) rfl rfl rfl rfl rfl rfl (fun w => ?hq) ?ha ?_ | refine' xBm (by decide) rfl rfl (fun w => ?hq) ?ha ?_ | refine' xAv (by decide) rfl rfl rfl (fun w => ?hq) ?ha ?_ | refine' xBi (by decide) rfl rfl rfl (fun w => ?hq) ?ha ?_); (case hq => go_simp; try rfl)) | (refine' xAl (by decide) rfl rfl rfl ?ha ?_) | (refine' xBp (by decide) rfl rfl rfl rfl ?ha ?_) | (refine' xBr (by decide) rfl ?ha ?_) | (refine' xBh rfl rfl rfl (xBn Try.func57 (by kernel_rfl) (by kernel_rfl) _) (fun w => o0 w) ?ha ?_) | (refine' xBh rfl rfl rfl (xBn Try.func57 (by kernel_rfl) (by kernel_rfl) _) (fun w => o1 w) ?ha ?_) | (refine' xBh rfl rfl rfl (xBn Try.func13 (by kernel_rfl) (by kernel_rfl) _) (fun w => c1 w) ?ha ?_) | (refine' xBh rfl rfl rfl (xBn Try.func13 (by kernel_rfl) (by kernel_rfl) _) (fun w => c2 w) ?ha ?_)); try (case ha => simp only [kP, kQ, kA, kB]; try rfl))
    refine xCa (hK _ _ ?_)
    clear hK K
    refine xCg (fun Q hQ => ?_)
    try simp only [List.nil_append, List.cons_append]
    repeat ((first | refine' xBc rfl (.inl rfl) rfl ?hk ?ha ?_ | refine' xBc rfl (.inr rfl) rfl ?hk ?ha ?_ | (refine' xAz rfl rfl rfl inferInstance rfl ?hs rfl rfl ?hn ?hk ?ha ?_; (case hs => repeat (first | exact xAf.head | apply xAf.tail)); (case hn => first | rfl | simp)) | (refine' xAo rfl rfl rfl inferInstance rfl rfl ?hs ?hn ?hl ?hk ?ha ?_; (case hs => repeat (first | exact xAf.head | apply xAf.tail)); (case hn => first | exact oD rfl | (show _ < 4; with_reducible assumption) | (simp; try omega)); (case hl => first | with_reducible assumption | (simp only [nl, kA, kB]; first | done | rfl) | rfl)) | (refine' xAy rfl rfl rfl inferInstance rfl rfl ?hvn ?hs ?hn ?hl ?hk ?ha ?_; (case hvn => first | rfl | simp); (case hs => repeat (first | exact xAf.head | apply xAf.tail)); (case hn => first | exact oD rfl | (show _ < 4; with_reducible assumption) | (simp; try omega)); (case hl => first | with_reducible assumption | (simp only [nl, kA, kB]; first | done | rfl) | rfl)) | (refine' xBv rfl (fun w => ?hq) ?hk ?ha ?_; (case hq => go_simp; try rfl))); (case hk => intro p hp; first | exact absurd hp List.not_mem_nil | (obtain rfl := List.mem_singleton.1 hp; repeat (first | exact List.Mem.head _ | apply mT))); (case ha => simp only [kP, kQ, kA, kB]; try rfl))
    refine xCh (fun w hR => hQ _ _ ?_)
    clear hQ Q
    go_wp2_with (first | (refine' xAe hR rfl rfl rfl ?_; clear hR; intro blk w hR) | (refine' xAb hR rfl rfl inferInstance ?_; clear hR; intro blk w hR) | (refine' xAc hR rfl rfl rfl inferInstance ?hm ?hn ?_; (case hm => first | with_reducible assumption | repeat (first | exact .head _ | apply mT)); (case hn => first | rfl | simp)) | (refine' xAd hR rfl rfl rfl inferInstance ?hm ?hv ?hn ?_; (case hm => first | with_reducible assumption | repeat (first | exact .head _ | apply mT)); (case hv => first | with_reducible assumption | (simp only [kC, kD, kE, kF]; try rfl)); (case hn => first | rfl | simp)) | (refine' xBg hR rfl rfl rfl inferInstance ?hm ?hv ?_; (case hm => first | with_reducible assumption | repeat (first | exact .head _ | apply mT)); (case hv => first | rfl | with_reducible assumption)) | (refine' xAa hR rfl rfl rfl inferInstance rfl ?hs ?zone ?zvn ?hn ?_; (case hs => repeat (first | exact xAf.head | apply xAf.tail)); (case zone => first | rfl | with_reducible assumption); (case zvn => first | rfl | simp); (case hn => first | rfl | simp); clear hR; intro w hR) | (refine' xBe hR rfl rfl rfl inferInstance rfl rfl ?hs ?hn ?hl ?_; (case hs => repeat (first | exact xAf.head | apply xAf.tail)); (case hn => first | exact oD rfl | (show _ < 4; with_reducible assumption) | (simp; try omega)); (case hl => first | with_reducible assumption | (simp only [nl, kA, kB]; first | done | rfl) | rfl); clear hR; intro w hR) | fail)
    go_ret
    exact ⟨rfl, hR.below⟩
set_option maxRecDepth 100000 in
set_option maxHeartbeats 2000000 in
theorem gexp_lit {n : Nat} (hp : p < B) (ha : a < B) (hn : n < B) (hr : (if mayG p a then powN a n p else 0) = r) (he : (if mayG p a then (0 : Int) else 1) = e) (w : World) : Calls Try.prog 48 #[grp p q g h, num a, num n] w fun e' w' =>
    e' = .returned (.tuple #[num r, .int .i64 e]) ∧ Below w.heap.size w w' := by
  have tp := gl_p p q g h
  by_cases ok : mayG p a
  · rw [if_pos ok] at hr he
    have m1 := may_lit (q := q) (g := g) (h := h) hp ha (decide_eq_true ok)
    have x1 := mexp_lit (r := r) (e := e) ha hn hp (by rw [if_pos ⟨ok.1, ok.2.2⟩]; exact hr) (by rw [if_pos ⟨ok.1, ok.2.2⟩]; exact he)
    clear ok hr he
    have hR := Rep.init w
    go_enter Try.func48, Try.ntmps48
    go_wp2_with (first | (refine' xAe hR rfl rfl rfl ?_; clear hR; intro blk w hR) | (refine' xAb hR rfl rfl inferInstance ?_; clear hR; intro blk w hR) | (refine' xAc hR rfl rfl rfl inferInstance ?hm ?hn ?_; (case hm => first | with_reducible assumption | repeat (first | exact .head _ | apply mT)); (case hn => first | rfl | simp)) | (refine' xAd hR rfl rfl rfl inferInstance ?hm ?hv ?hn ?_; (case hm => first | with_reducible assumption | repeat (first | exact .head _ | apply mT)); (case hv => first | with_reducible assumption | (simp only [kC, kD, kE, kF]; try rfl)); (case hn => first | rfl | simp)) | (refine' xBg hR rfl rfl rfl inferInstance ?hm ?hv ?_; (case hm => first | with_reducible assumption | repeat (first | exact .head _ | apply mT)); (case hv => first | rfl | with_reducible assumption)) | (refine' xAa hR rfl rfl rfl inferInstance rfl ?hs ?zone ?zvn ?hn ?_; (case hs => repeat (first | exact xAf.head | apply xAf.tail)); (case zone => first | rfl | with_reducible assumption); (case zvn => first | rfl | simp); (case hn => first | rfl | simp); clear hR; intro w hR) | (refine' xBe hR rfl rfl rfl inferInstance rfl rfl ?hs ?hn ?hl ?_; (case hs => repeat (first | exact xAf.head | apply xAf.tail)); (case hn => first | exact oD rfl | (show _ < 4; with_reducible assumption) | (simp; try omega)); (case hl => first | with_reducible assumption | (simp only [nl, kA, kB]; first | done | rfl) | rfl); clear hR; intro w hR) | (go_at_call 112; refine (m1 _).mono ?_; rintro e w ⟨rfl, hb⟩; replace hR := hR.call hb; clear hb) | (go_at_call 38; refine (x1 _).mono ?_; rintro e w ⟨rfl, hb⟩; replace hR := hR.call hb; clear hb))
    (refine' bodyPost_ret (xBd Try.results48 rfl (hR.loadAll (P := Try.prog) (ty := 24) ?hm ?hn)) rfl ⟨?_, hR.below⟩; (case hm => first | with_reducible assumption | repeat (first | exact .head _ | apply mT)); (case hn => first | rfl | simp))
    rfl
  · rw [if_neg ok] at hr he
    have m1 := may_lit (q := q) (g := g) (h := h) hp ha (decide_eq_false ok)
    subst hr he
    rw [z_num]
    clear ok
    have hR := Rep.init w
    go_enter Try.func48, Try.ntmps48
    go_wp2_with (first | (refine' xAe hR rfl rfl rfl ?_; clear hR; intro blk w hR) | (refine' xAb hR rfl rfl inferInstance ?_; clear hR; intro blk w hR) | (refine' xAc hR rfl rfl rfl inferInstance ?hm ?hn ?_; (case hm => first | with_reducible assumption | repeat (first | exact .head _ | apply mT)); (case hn => first | rfl | simp)) | (refine' xAd hR rfl rfl rfl inferInstance ?hm ?hv ?hn ?_; (case hm => first | with_reducible assumption | repeat (first | exact .head _ | apply mT)); (case hv => first | with_reducible assumption | (simp only [kC, kD, kE, kF]; try rfl)); (case hn => first | rfl | simp)) | (refine' xBg hR rfl rfl rfl inferInstance ?hm ?hv ?_; (case hm => first | with_reducible assumption | repeat (first | exact .head _ | apply mT)); (case hv => first | rfl | with_reducible assumption)) | (refine' xAa hR rfl rfl rfl inferInstance rfl ?hs ?zone ?zvn ?hn ?_; (case hs => repeat (first | exact xAf.head | apply xAf.tail)); (case zone => first | rfl | with_reducible assumption); (case zvn => first | rfl | simp); (case hn => first | rfl | simp); clear hR; intro w hR) | (refine' xBe hR rfl rfl rfl inferInstance rfl rfl ?hs ?hn ?hl ?_; (case hs => repeat (first | exact xAf.head | apply xAf.tail)); (case hn => first | exact oD rfl | (show _ < 4; with_reducible assumption) | (simp; try omega)); (case hl => first | with_reducible assumption | (simp only [nl, kA, kB]; first | done | rfl) | rfl); clear hR; intro w hR) | (go_at_call 112; refine (m1 _).mono ?_; rintro e w ⟨rfl, hb⟩; replace hR := hR.call hb; clear hb))
    (refine' bodyPost_ret (xBd Try.results48 rfl (hR.loadAll (P := Try.prog) (ty := 24) ?hm ?hn)) rfl ⟨?_, hR.below⟩; (case hm => first | with_reducible assumption | repeat (first | exact .head _ | apply mT)); (case hn => first | rfl | simp))
    rfl
set_option maxRecDepth 100000 in
set_option maxHeartbeats 4000000 in
theorem gmul_lit (hp : p < B) (ha : a < B) (hb : b < B) (hr : (if mayG p a ∧ mayG p b then mulN a b p else 0) = r) (he : (if mayG p a ∧ mayG p b then (0 : Int) else 1) = e) (w : World) : Calls Try.prog 49 #[grp p q g h, num a, num b] w fun e' w' =>
    e' = .returned (.tuple #[num r, .int .i64 e]) ∧ Below w.heap.size w w' := by
  have tp := gl_p p q g h
  by_cases oa : mayG p a
  · have m1 := may_lit (q := q) (g := g) (h := h) hp ha (decide_eq_true oa)
    by_cases ob : mayG p b
    · rw [if_pos ⟨oa, ob⟩] at hr he
      have m2 := may_lit (q := q) (g := g) (h := h) hp hb (decide_eq_true ob)
      have x1 := mmul_lit (r := r) (e := e) ha hb hp (by rw [if_pos ⟨oa.1, oa.2.2, ob.2.2⟩]; exact hr) (by rw [if_pos ⟨oa.1, oa.2.2, ob.2.2⟩]; exact he)
      clear oa ob hr he
      have hR := Rep.init w
      go_enter Try.func49, Try.ntmps49
      go_wp2_with (first | (refine' xAe hR rfl rfl rfl ?_; clear hR; intro blk w hR) | (refine' xAb hR rfl rfl inferInstance ?_; clear hR; intro blk w hR) | (refine' xAc hR rfl rfl rfl inferInstance ?hm ?hn ?_; (case hm => first | with_reducible assumption | repeat (first | exact .head _ | apply mT)); (case hn => first | rfl | simp)) | (refine' xAd hR rfl rfl rfl inferInstance ?hm ?hv ?hn ?_; (case hm => first | with_reducible assumption | repeat (first | exact .head _ | apply mT)); (case hv => first | with_reducible assumption | (simp only [kC, kD, kE, kF]; try rfl)); (case hn => first | rfl | simp)) | (refine' xBg hR rfl rfl rfl inferInstance ?hm ?hv ?_; (case hm => first | with_reducible assumption | repeat (first | exact .head _ | apply mT)); (case hv => first | rfl | with_reducible assumption)) | (refine' xAa hR rfl rfl rfl inferInstance rfl ?hs ?zone ?zvn ?hn ?_; (case hs => repeat (first | exact xAf.head | apply xAf.tail)); (case zone => first | rfl | with_reducible assumption); (case zvn => first | rfl | simp); (case hn => first | rfl | simp); clear hR; intro w hR) | (refine' xBe hR rfl rfl rfl inferInstance rfl rfl ?hs ?hn ?hl ?_; (case hs => repeat (first | exact xAf.head | apply xAf.tail)); (case hn => first | exact oD rfl | (show _ < 4; with_reducible assumption) | (simp; try omega)); (case hl => first | with_reducible assumption | (simp only [nl, kA, kB]; first | done | rfl) | rfl); clear hR; intro w hR) | (refine' xAg hR rfl rfl rfl inferInstance ?hm ?hn ?_; (case hm => first | with_reducible assumption | repeat (first | exact .head _ | apply mT)); (case hn => first | rfl | simp)) | (refine' xBf hR rfl rfl rfl inferInstance ?hm ?hv ?_; (case hm => first | with_reducible assumption | repeat (first | exact .head _ | apply mT)); (case hv => first | rfl | with_reducible assumption)) | (go_at_call 112; refine (m1 _).mono ?_; rintro e w ⟨rfl, hb⟩; replace hR := hR.call hb; clear hb) | (go_at_call 112; refine (m2 _).mono ?_; rintro e w ⟨rfl, hb⟩; replace hR := hR.call hb; clear hb) | (go_at_call 100; refine (x1 _).mono ?_; rintro e w ⟨rfl, hb⟩; replace hR := hR.call hb; clear hb))
      (refine' bodyPost_ret (xBd Try.results49 rfl (hR.loadAll (P := Try.prog) (ty := 24) ?hm ?hn)) rfl ⟨?_, hR.below⟩; (case hm => first | with_reducible assumption | repeat (first | exact .head _ | apply mT)); (case hn => first | rfl | simp))
      rfl
    · rw [if_neg (fun h => ob h.2)] at hr he
      have m2 := may_lit (q := q) (g := g) (h := h) hp hb (decide_eq_false ob)
      subst hr he
      rw [z_num]
      clear oa ob
      have hR := Rep.init w
      go_enter Try.func49, Try.ntmps49
      go_wp2_with (first | (refine' xAe hR rfl rfl rfl ?_; clear hR; intro blk w hR) | (refine' xAb hR rfl rfl inferInstance ?_; clear hR; intro blk w hR) | (refine' xAc hR rfl rfl rfl inferInstance ?hm ?hn ?_; (case hm => first | with_reducible assumption | repeat (first | exact .head _ | apply mT)); (case hn => first | rfl | simp)) | (refine' xAd hR rfl rfl rfl inferInstance ?hm ?hv ?hn ?_; (case hm => first | with_reducible assumption | repeat (first | exact .head _ | apply mT)); (case hv => first | with_reducible assumption | (simp only [kC, kD, kE, kF]; try rfl)); (case hn => first | rfl | simp)) | (refine' xBg hR rfl rfl rfl inferInstance ?hm ?hv ?_; (case hm => first | with_reducible assumption | repeat (first | exact .head _ | apply mT)); (case hv => first | rfl | with_reducible assumption)) | (refine' xAa hR rfl rfl rfl inferInstance rfl ?hs ?zone ?zvn ?hn ?_; (case hs => repeat (first | exact xAf.head | apply xAf.tail)); (case zone => first | rfl | with_reducible assumption); (case zvn => first | rfl | simp); (case hn => first | rfl | simp); clear hR; intro w hR) | (refine' xBe hR rfl rfl rfl inferInstance rfl rfl ?hs ?hn ?hl ?_; (case hs => repeat (first | exact xAf.head | apply xAf.tail)); (case hn => first | exact oD rfl | (show _ < 4; with_reducible assumption) | (simp; try omega)); (case hl => first | with_reducible assumption | (simp only [nl, kA, kB]; first | done | rfl) | rfl); clear hR; intro w hR) | (refine' xAg hR rfl rfl rfl inferInstance ?hm ?hn ?_; (case hm => first | with_reducible assumption | repeat (first | exact .head _ | apply mT)); (case hn => first | rfl | simp)) | (refine' xBf hR rfl rfl rfl inferInstance ?hm ?hv ?_; (case hm => first | with_reducible assumption | repeat (first | exact .head _ | apply mT)); (case hv => first | rfl | with_reducible assumption)) | (go_at_call 112; refine (m1 _).mono ?_; rintro e w ⟨rfl, hb⟩; replace hR := hR.call hb; clear hb) | (go_at_call 112; refine (m2 _).mono ?_; rintro e w ⟨rfl, hb⟩; replace hR := hR.call hb; clear hb))
      (refine' bodyPost_ret (xBd Try.results49 rfl (hR.loadAll (P := Try.prog) (ty := 24) ?hm ?hn)) rfl ⟨?_, hR.below⟩; (case hm => first | with_reducible assumption | repeat (first | exact .head _ | apply mT)); (case hn => first | rfl | simp))
      rfl
  · have m1 := may_lit (q := q) (g := g) (h := h) hp ha (decide_eq_false oa)
    rw [if_neg (fun h => oa h.1)] at hr he
    subst hr he
    rw [z_num]
    clear oa
    have hR := Rep.init w
    go_enter Try.func49, Try.ntmps49
    go_wp2_with (first | (refine' xAe hR rfl rfl rfl ?_; clear hR; intro blk w hR) | (refine' xAb hR rfl rfl inferInstance ?_; clear hR; intro blk w hR) | (refine' xAc hR rfl rfl rfl inferInstance ?hm ?hn ?_; (case hm => first | with_reducible assumption | repeat (first | exact .head _ | apply mT)); (case hn => first | rfl | simp)) | (refine' xAd hR rfl rfl rfl inferInstance ?hm ?hv ?hn ?_; (case hm => first | with_reducible assumption | repeat (first | exact .head _ | apply mT)); (case hv => first | with_reducible assumption | (simp only [kC, kD, kE, kF]; try rfl)); (case hn => first | rfl | simp)) | (refine' xBg hR rfl rfl rfl inferInstance ?hm ?hv ?_; (case hm => first | with_reducible assumption | repeat (first | exact .head _ | apply mT)); (case hv => first | rfl | with_reducible assumption)) | (refine' xAa hR rfl rfl rfl inferInstance rfl ?hs ?zone ?zvn ?hn ?_; (case hs => repeat (first | exact xAf.head | apply xAf.tail)); (case zone => first | rfl | with_reducible assumption); (case zvn => first | rfl | simp); (case hn => first | rfl | simp); clear hR; intro w hR) | (refine' xBe hR rfl rfl rfl inferInstance rfl rfl ?hs ?hn ?hl ?_; (case hs => repeat (first | exact xAf.head | apply xAf.tail)); (case hn => first | exact oD rfl | (show _ < 4; with_reducible assumption) | (simp; try omega)); (case hl => first | with_reducible assumption | (simp only [nl, kA, kB]; first | done | rfl) | rfl); clear hR; intro w hR) | (go_at_call 112; refine (m1 _).mono ?_; rintro e w ⟨rfl, hb⟩; replace hR := hR.call hb; clear hb))
    (refine' bodyPost_ret (xBd Try.results49 rfl (hR.loadAll (P := Try.prog) (ty := 24) ?hm ?hn)) rfl ⟨?_, hR.below⟩; (case hm => first | with_reducible assumption | repeat (first | exact .head _ | apply mT)); (case hn => first | rfl | simp))
    rfl
def inG (p q a : Nat) : Prop := mayG p a ∧ powN a q p = 1
set_option maxRecDepth 100000 in
set_option maxHeartbeats 2000000 in
theorem xCy (hp : p < B) (hq : q < B) (ha : a < B) (hs : (s = true ↔ inG p q a)) (w : World) : Calls Try.prog 18 #[grp p q g h, num a] w fun e' w' =>
    e' = .returned (.bool s) ∧ Below w.heap.size w w' := by
  have tq := gl_q p q g h
  obtain ⟨n1, h1⟩ : ∃ n, n = 1 := ⟨_, rfl⟩
  have o1 : ∀ w, Calls Try.prog 57 #[.int .u64 1] w fun e w' => e = .returned (num n1) ∧ Below w.heap.size w w' := fun w => by
    rw [h1]; exact of_any 1 (by decide) w
  have L1 : n1 < B := lt_B (by omega)
  by_cases ok : mayG p a
  · obtain ⟨x, hx⟩ : ∃ x, powN a q p = x := ⟨_, rfl⟩
    have lx : x < p := by rw [← hx]; exact pow_lt' ok.1 _ _
    have x1 := gexp_lit (q := q) (g := g) (h := h) (r := x) (e := 0) hp ha hq (by rw [if_pos ok]; exact hx) (if_pos ok)
    have es : eqN x n1 = s := by
      by_cases e1 : x = 1
      · rw [eqN_yes (by omega)]
        exact (hs.mpr ⟨ok, by rw [hx, e1]⟩).symm
      · rw [eqN_no (by omega) L1 (by omega)]
        cases s with
        | false => rfl
        | true => exact absurd (hs.mp rfl).2 (by rw [hx]; exact e1)
    clear hs hx lx ok h1 L1
    have hR := Rep.init w
    cases s
    all_goals
      go_enter Try.func18, Try.ntmps18
      go_wp2_with (first | (refine' xAe hR rfl rfl rfl ?_; clear hR; intro blk w hR) | (refine' xAb hR rfl rfl inferInstance ?_; clear hR; intro blk w hR) | (refine' xAc hR rfl rfl rfl inferInstance ?hm ?hn ?_; (case hm => first | with_reducible assumption | repeat (first | exact .head _ | apply mT)); (case hn => first | rfl | simp)) | (refine' xAd hR rfl rfl rfl inferInstance ?hm ?hv ?hn ?_; (case hm => first | with_reducible assumption | repeat (first | exact .head _ | apply mT)); (case hv => first | with_reducible assumption | (simp only [kC, kD, kE, kF]; try rfl)); (case hn => first | rfl | simp)) | (refine' xBg hR rfl rfl rfl inferInstance ?hm ?hv ?_; (case hm => first | with_reducible assumption | repeat (first | exact .head _ | apply mT)); (case hv => first | rfl | with_reducible assumption)) | (refine' xAa hR rfl rfl rfl inferInstance rfl ?hs ?zone ?zvn ?hn ?_; (case hs => repeat (first | exact xAf.head | apply xAf.tail)); (case zone => first | rfl | with_reducible assumption); (case zvn => first | rfl | simp); (case hn => first | rfl | simp); clear hR; intro w hR) | (refine' xBe hR rfl rfl rfl inferInstance rfl rfl ?hs ?hn ?hl ?_; (case hs => repeat (first | exact xAf.head | apply xAf.tail)); (case hn => first | exact oD rfl | (show _ < 4; with_reducible assumption) | (simp; try omega)); (case hl => first | with_reducible assumption | (simp only [nl, kA, kB]; first | done | rfl) | rfl); clear hR; intro w hR) | (go_at_call 48; refine (x1 _).mono ?_; rintro e w ⟨rfl, hb⟩; replace hR := hR.call hb; clear hb))
      refine xAn hR [0, 0, 0, 0, 0, 0, 0, 2] [] mixed (by kernel_rfl) rfl rfl (fun K hK => ?_)
      clear hR
      repeat ((first | (refine xBq ?_) | (refine' xAx (by decide) rfl (.inl rfl) rfl ?ha ?_) | (refine' xAx (by decide) rfl (.inr rfl) rfl ?ha ?_) | (refine' xAt rfl rfl rfl inferInstance ?hm ?hn ?ha ?_; (case hm => first | with_reducible assumption | repeat (first | exact .head _ | apply mT)); (case hn => first | rfl | simp)) | (refine' xAr rfl rfl rfl inferInstance ?hm ?hv ?hn ?ha ?_; (case hm => first | with_reducible assumption | repeat (first | exact .head _ | apply mT)); (case hv => first | with_reducible assumption | (simp only [kC, kD, kE, kF]; try rfl)); (case hn => first | rfl | simp)) | (refine' xAk rfl rfl rfl inferInstance ?hm ?hv ?ha ?_; (case hm => first | with_reducible assumption | repeat (first | exact .head _ | apply mT)); (case hv => first | rfl | with_reducible assumption)) | (refine' xAq rfl rfl rfl inferInstance ?hm ?hv ?hn ?ha ?_; (case hm => first | with_reducible assumption | repeat (first | exact .head _ | apply mT)); (case hv => first | with_reducible assumption | (simp only [kC, kD, kE, kF]; try rfl)); (case hn => first | rfl | simp)) | (refine' xAm rfl rfl rfl inferInstance ?hm ?hv ?ha ?_; (case hm => first | with_reducible assumption | repeat (first | exact .head _ | apply mT)); (case hv => first | rfl | with_reducible assumption)) | ((first | refine' xAi (by decide) rfl rfl rfl rfl (fun w => ?hq) ?ha ?_ | refine' xBk (by decide) rfl rfl rfl rfl (fun w => ?hq) ?ha ?_ | refine' xAw (by decide) rfl rfl rfl (fun w => ?hq) ?ha ?_ | refine' xAh (by decide) rfl rfl rfl (fun w => ?hq) ?ha ?_ | refine' xAu (by decide) rfl rfl rfl (fun w => ?hq) ?ha ?_ | refine' xBl (by decide) rfl rfl rfl rfl (fun w => ?hq) ?ha ?_ | refine' xBj (by decide) rfl rfl rfl rfl rfl rfl (fun w => ?hq) ?ha ?_ | refine' xBm (by decide) rfl rfl (fun w => ?hq) ?ha ?_ | refine' xAv (by decide) rfl rfl rfl (fun w => ?hq) ?ha ?_ | refine' xBi (by decide) rfl rfl rfl (fun w => ?hq) ?ha ?_); (case hq => go_simp; try rfl)) | (refine' xAl (by decide) rfl rfl rfl ?ha ?_) | (refine' xBp (by decide) rfl rfl rfl rfl ?ha ?_) | (refine' xBr (by decide) rfl ?ha ?_) | (refine' xBh rfl rfl rfl (xBn Try.func57 (by kernel_rfl) (by kernel_rfl) _) (fun w => o1 w) ?ha ?_)); try (case ha => simp only [kP, kQ, kA, kB]; try rfl))
      refine xCa (hK _ _ ?_)
      clear hK K
      refine xCg (fun Q hQ => ?_)
      try simp only [List.nil_append, List.cons_append]
      repeat ((first | refine' xBc rfl (.inl rfl) rfl ?hk ?ha ?_ | refine' xBc rfl (.inr rfl) rfl ?hk ?ha ?_ | (refine' xAz rfl rfl rfl inferInstance rfl ?hs rfl rfl ?hn ?hk ?ha ?_; (case hs => repeat (first | exact xAf.head | apply xAf.tail)); (case hn => first | rfl | simp)) | (refine' xAo rfl rfl rfl inferInstance rfl rfl ?hs ?hn ?hl ?hk ?ha ?_; (case hs => repeat (first | exact xAf.head | apply xAf.tail)); (case hn => first | exact oD rfl | (show _ < 4; with_reducible assumption) | (simp; try omega)); (case hl => first | with_reducible assumption | (simp only [nl, kA, kB]; first | done | rfl) | rfl)) | (refine' xAy rfl rfl rfl inferInstance rfl rfl ?hvn ?hs ?hn ?hl ?hk ?ha ?_; (case hvn => first | rfl | simp); (case hs => repeat (first | exact xAf.head | apply xAf.tail)); (case hn => first | exact oD rfl | (show _ < 4; with_reducible assumption) | (simp; try omega)); (case hl => first | with_reducible assumption | (simp only [nl, kA, kB]; first | done | rfl) | rfl)) | (refine' xBv rfl (fun w => ?hq) ?hk ?ha ?_; (case hq => go_simp; try rfl))); (case hk => intro p hp; first | exact absurd hp List.not_mem_nil | (obtain rfl := List.mem_singleton.1 hp; repeat (first | exact List.Mem.head _ | apply mT))); (case ha => simp only [kP, kQ, kA, kB]; try rfl))
      refine xCh (fun w hR => hQ _ _ ?_)
      clear hQ Q
      go_wp2_with (first | (refine' xAe hR rfl rfl rfl ?_; clear hR; intro blk w hR) | (refine' xAb hR rfl rfl inferInstance ?_; clear hR; intro blk w hR) | (refine' xAc hR rfl rfl rfl inferInstance ?hm ?hn ?_; (case hm => first | with_reducible assumption | repeat (first | exact .head _ | apply mT)); (case hn => first | rfl | simp)) | (refine' xAd hR rfl rfl rfl inferInstance ?hm ?hv ?hn ?_; (case hm => first | with_reducible assumption | repeat (first | exact .head _ | apply mT)); (case hv => first | with_reducible assumption | (simp only [kC, kD, kE, kF]; try rfl)); (case hn => first | rfl | simp)) | (refine' xBg hR rfl rfl rfl inferInstance ?hm ?hv ?_; (case hm => first | with_reducible assumption | repeat (first | exact .head _ | apply mT)); (case hv => first | rfl | with_reducible assumption)) | (refine' xAa hR rfl rfl rfl inferInstance rfl ?hs ?zone ?zvn ?hn ?_; (case hs => repeat (first | exact xAf.head | apply xAf.tail)); (case zone => first | rfl | with_reducible assumption); (case zvn => first | rfl | simp); (case hn => first | rfl | simp); clear hR; intro w hR) | (refine' xBe hR rfl rfl rfl inferInstance rfl rfl ?hs ?hn ?hl ?_; (case hs => repeat (first | exact xAf.head | apply xAf.tail)); (case hn => first | exact oD rfl | (show _ < 4; with_reducible assumption) | (simp; try omega)); (case hl => first | with_reducible assumption | (simp only [nl, kA, kB]; first | done | rfl) | rfl); clear hR; intro w hR) | fail)
      go_ret
      exact ⟨rfl, hR.below⟩
  · have x1 := gexp_lit (q := q) (g := g) (h := h) (r := 0) (e := 1) hp ha hq (by rw [if_neg ok]) (if_neg ok)
    have es : s = false := by
      cases s with
      | false => rfl
      | true => exact absurd (hs.mp rfl).1 ok
    subst es
    obtain ⟨n0, h0⟩ : ∃ n, n = 0 := ⟨_, rfl⟩
    have e0 : num 0 = num n0 := by rw [h0]
    rw [e0] at x1
    clear hs ok h1 L1 h0 e0
    have hR := Rep.init w
    go_enter Try.func18, Try.ntmps18
    go_wp2_with (first | (refine' xAe hR rfl rfl rfl ?_; clear hR; intro blk w hR) | (refine' xAb hR rfl rfl inferInstance ?_; clear hR; intro blk w hR) | (refine' xAc hR rfl rfl rfl inferInstance ?hm ?hn ?_; (case hm => first | with_reducible assumption | repeat (first | exact .head _ | apply mT)); (case hn => first | rfl | simp)) | (refine' xAd hR rfl rfl rfl inferInstance ?hm ?hv ?hn ?_; (case hm => first | with_reducible assumption | repeat (first | exact .head _ | apply mT)); (case hv => first | with_reducible assumption | (simp only [kC, kD, kE, kF]; try rfl)); (case hn => first | rfl | simp)) | (refine' xBg hR rfl rfl rfl inferInstance ?hm ?hv ?_; (case hm => first | with_reducible assumption | repeat (first | exact .head _ | apply mT)); (case hv => first | rfl | with_reducible assumption)) | (refine' xAa hR rfl rfl rfl inferInstance rfl ?hs ?zone ?zvn ?hn ?_; (case hs => repeat (first | exact xAf.head | apply xAf.tail)); (case zone => first | rfl | with_reducible assumption); (case zvn => first | rfl | simp); (case hn => first | rfl | simp); clear hR; intro w hR) | (refine' xBe hR rfl rfl rfl inferInstance rfl rfl ?hs ?hn ?hl ?_; (case hs => repeat (first | exact xAf.head | apply xAf.tail)); (case hn => first | exact oD rfl | (show _ < 4; with_reducible assumption) | (simp; try omega)); (case hl => first | with_reducible assumption | (simp only [nl, kA, kB]; first | done | rfl) | rfl); clear hR; intro w hR) | (go_at_call 48; refine (x1 _).mono ?_; rintro e w ⟨rfl, hb⟩; replace hR := hR.call hb; clear hb))
    refine xAn hR [0, 0, 0, 0, 0, 0, 0, 2] [] mixed (by kernel_rfl) rfl rfl (fun K hK => ?_)
    clear hR
    repeat ((first | (refine xBq ?_) | (refine' xAx (by decide) rfl (.inl rfl) rfl ?ha ?_) | (refine' xAx (by decide) rfl (.inr rfl) rfl ?ha ?_) | (refine' xAt rfl rfl rfl inferInstance ?hm ?hn ?ha ?_; (case hm => first | with_reducible assumption | repeat (first | exact .head _ | apply mT)); (case hn => first | rfl | simp)) | (refine' xAr rfl rfl rfl inferInstance ?hm ?hv ?hn ?ha ?_; (case hm => first | with_reducible assumption | repeat (first | exact .head _ | apply mT)); (case hv => first | with_reducible assumption | (simp only [kC, kD, kE, kF]; try rfl)); (case hn => first | rfl | simp)) | (refine' xAk rfl rfl rfl inferInstance ?hm ?hv ?ha ?_; (case hm => first | with_reducible assumption | repeat (first | exact .head _ | apply mT)); (case hv => first | rfl | with_reducible assumption)) | (refine' xAq rfl rfl rfl inferInstance ?hm ?hv ?hn ?ha ?_; (case hm => first | with_reducible assumption | repeat (first | exact .head _ | apply mT)); (case hv => first | with_reducible assumption | (simp only [kC, kD, kE, kF]; try rfl)); (case hn => first | rfl | simp)) | (refine' xAm rfl rfl rfl inferInstance ?hm ?hv ?ha ?_; (case hm => first | with_reducible assumption | repeat (first | exact .head _ | apply mT)); (case hv => first | rfl | with_reducible assumption)) | ((first | refine' xAi (by decide) rfl rfl rfl rfl (fun w => ?hq) ?ha ?_ | refine' xBk (by decide) rfl rfl rfl rfl (fun w => ?hq) ?ha ?_ | refine' xAw (by decide) rfl rfl rfl (fun w => ?hq) ?ha ?_ | refine' xAh (by decide) rfl rfl rfl (fun w => ?hq) ?ha ?_ | refine' xAu (by decide) rfl rfl rfl (fun w => ?hq) ?ha ?_ | refine' xBl (by decide) rfl rfl rfl rfl (fun w => ?hq) ?ha ?_ | refine' xBj (by decide) rfl rfl rfl rfl rfl rfl (fun w => ?hq) ?ha ?_ | refine' xBm (by decide) rfl rfl (fun w => ?hq) ?ha ?_ | refine' xAv (by decide) rfl rfl rfl (fun w => ?hq) ?ha ?_ | refine' xBi (by decide) rfl rfl rfl (fun w => ?hq) ?ha ?_); (case hq => go_simp; try rfl)) | (refine' xAl (by decide) rfl rfl rfl ?ha ?_) | (refine' xBp (by decide) rfl rfl rfl rfl ?ha ?_) | (refine' xBr (by decide) rfl ?ha ?_) | (refine' xBh rfl rfl rfl (xBn Try.func57 (by kernel_rfl) (by kernel_rfl) _) (fun w => o1 w) ?ha ?_)); try (case ha => simp only [kP, kQ, kA, kB]; try rfl))
    refine xCa (hK _ _ ?_)
    clear hK K
    refine xCg (fun Q hQ => ?_)
    try simp only [List.nil_append, List.cons_append]
    repeat ((first | refine' xBc rfl (.inl rfl) rfl ?hk ?ha ?_ | refine' xBc rfl (.inr rfl) rfl ?hk ?ha ?_ | (refine' xAz rfl rfl rfl inferInstance rfl ?hs rfl rfl ?hn ?hk ?ha ?_; (case hs => repeat (first | exact xAf.head | apply xAf.tail)); (case hn => first | rfl | simp)) | (refine' xAo rfl rfl rfl inferInstance rfl rfl ?hs ?hn ?hl ?hk ?ha ?_; (case hs => repeat (first | exact xAf.head | apply xAf.tail)); (case hn => first | exact oD rfl | (show _ < 4; with_reducible assumption) | (simp; try omega)); (case hl => first | with_reducible assumption | (simp only [nl, kA, kB]; first | done | rfl) | rfl)) | (refine' xAy rfl rfl rfl inferInstance rfl rfl ?hvn ?hs ?hn ?hl ?hk ?ha ?_; (case hvn => first | rfl | simp); (case hs => repeat (first | exact xAf.head | apply xAf.tail)); (case hn => first | exact oD rfl | (show _ < 4; with_reducible assumption) | (simp; try omega)); (case hl => first | with_reducible assumption | (simp only [nl, kA, kB]; first | done | rfl) | rfl)) | (refine' xBv rfl (fun w => ?hq) ?hk ?ha ?_; (case hq => go_simp; try rfl))); (case hk => intro p hp; first | exact absurd hp List.not_mem_nil | (obtain rfl := List.mem_singleton.1 hp; repeat (first | exact List.Mem.head _ | apply mT))); (case ha => simp only [kP, kQ, kA, kB]; try rfl))
    refine xCh (fun w hR => hQ _ _ ?_)
    clear hQ Q
    go_wp2_with (first | (refine' xAe hR rfl rfl rfl ?_; clear hR; intro blk w hR) | (refine' xAb hR rfl rfl inferInstance ?_; clear hR; intro blk w hR) | (refine' xAc hR rfl rfl rfl inferInstance ?hm ?hn ?_; (case hm => first | with_reducible assumption | repeat (first | exact .head _ | apply mT)); (case hn => first | rfl | simp)) | (refine' xAd hR rfl rfl rfl inferInstance ?hm ?hv ?hn ?_; (case hm => first | with_reducible assumption | repeat (first | exact .head _ | apply mT)); (case hv => first | with_reducible assumption | (simp only [kC, kD, kE, kF]; try rfl)); (case hn => first | rfl | simp)) | (refine' xBg hR rfl rfl rfl inferInstance ?hm ?hv ?_; (case hm => first | with_reducible assumption | repeat (first | exact .head _ | apply mT)); (case hv => first | rfl | with_reducible assumption)) | (refine' xAa hR rfl rfl rfl inferInstance rfl ?hs ?zone ?zvn ?hn ?_; (case hs => repeat (first | exact xAf.head | apply xAf.tail)); (case zone => first | rfl | with_reducible assumption); (case zvn => first | rfl | simp); (case hn => first | rfl | simp); clear hR; intro w hR) | (refine' xBe hR rfl rfl rfl inferInstance rfl rfl ?hs ?hn ?hl ?_; (case hs => repeat (first | exact xAf.head | apply xAf.tail)); (case hn => first | exact oD rfl | (show _ < 4; with_reducible assumption) | (simp; try omega)); (case hl => first | with_reducible assumption | (simp only [nl, kA, kB]; first | done | rfl) | rfl); clear hR; intro w hR) | fail)
    go_ret
    exact ⟨rfl, hR.below⟩
end
end Go.Proofs.Ythbcgcncoggagaa
namespace Go.Proofs.Ythbcgcncoggagaa
open Go.RowKit
def noDiv (n k : Nat) : Prop := ∀ d, 2 ≤ d → d < k → n % d ≠ 0
def IsSmall (n : Nat) : Prop := 2 ≤ n ∧ n < 4294967296 ∧ ∀ d, 2 ≤ d → d * d ≤ n → n % d ≠ 0
open Classical in
noncomputable def smallB (n : Nat) : Bool := decide (IsSmall n)
open Classical in
theorem smallB_no {n : Nat} (h : ¬ IsSmall n) : smallB n = false := by unfold smallB; exact decide_eq_false h
open Classical in
theorem smallB_yes {n : Nat} (h : IsSmall n) : smallB n = true := by unfold smallB; exact decide_eq_true h
theorem ret_bool {a b : Bool} (h : a = b) : Ending.returned (.bool a) = .returned (.bool b) := by rw [h]
theorem smallB_lt (n : Nat) (h : n < 2) : smallB n = false := by
  refine smallB_no ?_; unfold IsSmall; omega
theorem smallB_ge (n : Nat) (h : ¬ n < 4294967296) : smallB n = false := by
  refine smallB_no ?_; unfold IsSmall; omega
theorem smallB_div (n k : Nat) (hk : 2 ≤ k) (h : k * k ≤ n) (h0 : n % k = 0) : smallB n = false := by
  refine smallB_no ?_; unfold IsSmall
  rintro ⟨_, _, h3⟩
  exact h3 k hk h h0
theorem smallB_none (n k : Nat) (h2 : ¬ n < 2) (h3 : n < 4294967296) (h : n < k * k) (hno : noDiv n k) : smallB n = true := by
  refine smallB_yes ?_
  refine ⟨by omega, h3, fun d hd hdd => hno d hd ?_⟩
  rcases Nat.lt_or_ge d k with hlt | hge
  · exact hlt
  · have := Nat.mul_le_mul hge hge
    omega
theorem noDiv_two (n : Nat) : noDiv n 2 := fun d h1 h2 => by omega
theorem noDiv_succ (n k : Nat) (h : noDiv n k) (h0 : n % k ≠ 0) : noDiv n (k + 1) := fun d h1 h2 => by
  rcases Nat.lt_or_ge d k with hlt | hge
  · exact h d h1 hlt
  · have : d = k := by omega
    subst this; exact h0
theorem sq_le (n k : Nat) (h3 : n < 4294967296) (h : k * k ≤ n) : k < 65536 := by
  rcases Nat.lt_or_ge k 65536 with hlt | hge
  · exact hlt
  · have := Nat.mul_le_mul hge hge
    omega
theorem le_of_cast {n k : Nat} (h : (k : Int) * k ≤ n) : k * k ≤ n := by
  have : ((k * k : Nat) : Int) ≤ n := by simpa using h
  omega
theorem lt_of_cast {n k : Nat} (h : (n : Int) < (k : Int) * k) : n < k * k := by
  have : (n : Int) < ((k * k : Nat) : Int) := by simpa using h
  omega
theorem mod_zero_of {n k : Nat} (h : ((n : Int) % k == 0) = true) : n % k = 0 := by
  have : (n : Int) % k = 0 := by simpa using h
  omega
theorem mod_ne_of {n k : Nat} (h : ((n : Int) % k == 0) = false) : n % k ≠ 0 := by
  intro h0
  have : (n : Int) % k = 0 := by omega
  simp [this] at h
set_option maxRecDepth 100000 in
set_option maxHeartbeats 400000 in
theorem small_any (n : Nat) (w : World) (hn : n < 18446744073709551616) :
    Calls Try.prog 35 #[.int .u64 n] w fun e w' => e = .returned (.bool (smallB n)) ∧ w = w' := by
  by_cases h2 : n < 2
  · go_enter Try.func35, Try.ntmps35
    go_wp2
    go_step3
    go_wp2
    go_ret
    exact ⟨ret_bool (smallB_lt n h2).symm, rfl⟩
  · by_cases h3 : n < 4294967296
    · have hs : (n : Int) / 4294967296 = 0 := by omega
      go_enter Try.func35, Try.ntmps35
      go_wp2
      go_step3
      go_wp2
      go_step3
      go_wp2
      go_loop [3, 4] (fun i d => ∃ k : Nat, 2 ≤ k ∧ k ≤ 65536 ∧ noDiv n k ∧ d = .int .u64 k ∧ i = .bool true) (fun _ d => 65536 - (intOf d).toNat)
      case atStart => exact ⟨2, by omega, by omega, noDiv_two n, rfl, rfl⟩
      case round =>
        obtain ⟨k, hk2, hk, hno, rfl, rfl⟩ := hrel
        have hkk : (k : Int) * k ≤ 4294967296 := by
          have := Nat.mul_le_mul hk hk
          have h' : ((k * k : Nat) : Int) ≤ 4294967296 := by omega
          simpa using h'
        have hk0 : (0 : Int) ≤ (k : Int) * k := by
          have h' : (0 : Int) ≤ ((k * k : Nat) : Int) := by omega
          simpa using h'
        go_wp2
        · have h1 : (k : Int) * k ≤ n := by assumption
          have h0 : ((n : Int) % k == 0) = true := by assumption
          go_ret
          exact ⟨ret_bool (smallB_div n k hk2 (le_of_cast h1) (mod_zero_of h0)).symm, rfl⟩
        · have h1 : (k : Int) * k ≤ n := by assumption
          have h0 : ((n : Int) % k == 0) = false := by assumption
          have hlt := sq_le n k h3 (le_of_cast h1)
          go_round
          case rel => exact ⟨k + 1, by omega, by omega, noDiv_succ n k hno (mod_ne_of h0), by go_num, rfl⟩
          case measure => simp [intOf]; omega
        · have h1 : (n : Int) < (k : Int) * k := by assumption
          go_ret
          exact ⟨ret_bool (smallB_none n k h2 h3 (lt_of_cast h1) hno).symm, rfl⟩
    · have hs : (n : Int) / 4294967296 > 0 := by omega
      go_enter Try.func35, Try.ntmps35
      go_wp2
      go_step3
      go_wp2
      try rw [Exit.noGoto_ret]
      go_ret
      exact ⟨ret_bool (smallB_ge n h3).symm, rfl⟩
theorem small_lit (n : Nat) (b : Bool) (hn : n < 18446744073709551616) (hb : smallB n = b) (w : World) : Calls Try.prog 35 #[.int .u64 n] w fun e w' => e = .returned (.bool b) ∧ Below w.heap.size w w' :=
  (small_any n w hn).mono fun e w' ⟨h1, h2⟩ => ⟨by rw [h1, hb], by rw [← h2]; exact Below.refl _ _⟩
end Go.Proofs.Ythbcgcncoggagaa
namespace Go.Proofs.Ythbcgcncoggagaa
open Go.RowKit
attribute [local irreducible] Calls
instance rowReason : RowT Try.prog 53 9 := .mk' (by kernel_rfl) (by kernel_rfl)
instance cellHolds : CellT Try.prog 56 := .mk' (by kernel_rfl) (by kernel_rfl)
instance cellParts : CellT Try.prog 51 := .mk' (by kernel_rfl) (by kernel_rfl)
theorem xAf.new {b : Nat} {o o' : Obj} : ∀ {L L' : List (Nat × Obj)}, xAf L b o o' L' → (b, o') ∈ L'
  | [], _, h => h.elim
  | q :: L, L', h => by
    rcases h with ⟨rfl, rfl⟩ | ⟨L'', h, rfl⟩
    · exact .head _
    · exact .tail _ h.new
instance zeroInt : ZeroT Try.prog 3 [.int .i64 0] := ⟨.int .i64 0, by kernel_rfl, rfl⟩
instance zeroHolds : ZeroT Try.prog 56 [.nilFunc] := ⟨.nilFunc, by kernel_rfl, rfl⟩
end Go.Proofs.Ythbcgcncoggagaa
namespace Go.Proofs.Ythbcgcncoggagaa
open Go.RowKit
attribute [local irreducible] Calls
theorem of8_any (n : Nat) (hn : n < 18446744073709551616) (w : World) : Calls Try.prog 111 #[.int .u64 (n : Int)] w fun e w' =>
    e = .returned (num n) ∧ Below w.heap.size w w' := by
  have hR := Rep.init w
  go_enter Try.func111, Try.ntmps111
  go_wp2_with (first | (refine' xAe hR rfl rfl rfl ?_; clear hR; intro blk w hR) | (refine' xAb hR rfl rfl inferInstance ?_; clear hR; intro blk w hR) | (refine' xAc hR rfl rfl rfl inferInstance ?hm ?hn ?_; (case hm => first | with_reducible assumption | repeat (first | exact .head _ | apply mT)); (case hn => first | rfl | simp)) | (refine' xAd hR rfl rfl rfl inferInstance ?hm ?hv ?hn ?_; (case hm => first | with_reducible assumption | repeat (first | exact .head _ | apply mT)); (case hv => first | with_reducible assumption | (simp only [kC, kD, kE, kF]; try rfl)); (case hn => first | rfl | simp)) | (refine' xBg hR rfl rfl rfl inferInstance ?hm ?hv ?_; (case hm => first | with_reducible assumption | repeat (first | exact .head _ | apply mT)); (case hv => first | rfl | with_reducible assumption)) | (refine' xAa hR rfl rfl rfl inferInstance rfl ?hs ?zone ?zvn ?hn ?_; (case hs => repeat (first | exact xAf.head | apply xAf.tail)); (case zone => first | rfl | with_reducible assumption); (case zvn => first | rfl | simp); (case hn => first | rfl | simp); clear hR; intro w hR) | (refine' xBe hR rfl rfl rfl inferInstance rfl rfl ?hs ?hn ?hl ?_; (case hs => repeat (first | exact xAf.head | apply xAf.tail)); (case hn => first | exact oD rfl | (show _ < 4; with_reducible assumption) | (simp; try omega)); (case hl => first | with_reducible assumption | (simp only [nl, kA, kB]; first | done | rfl) | rfl); clear hR; intro w hR) | (go_at_call 57; refine (of_any n hn _).mono ?_; rintro e w ⟨rfl, hb⟩; replace hR := hR.call hb; clear hb))
  (refine' bodyPost_ret (xBt Try.results111 rfl (hR.loadAll (P := Try.prog) (ty := 24) ?hm ?hn)) rfl ⟨?_, hR.below⟩; (case hm => first | with_reducible assumption | repeat (first | exact .head _ | apply mT)); (case hn => first | rfl | simp))
  rfl
theorem o8_lit (n : Nat) (k : Int) (hk : (n : Int) = k) (hn : n < 18446744073709551616) (w : World) : Calls Try.prog 111 #[.int .u64 k] w fun e w' =>
    e = .returned (num n) ∧ Below w.heap.size w w' := by
  subst hk; exact of8_any n hn w
theorem build_g4 (p q g h : Nat) (w : World) : (Instr.build 26 #[(0, .agg (nl p).toArray), (1, .agg (nl q).toArray), (2, .agg (nl g).toArray), (3, .agg (nl h).toArray)]).run Try.prog w = .ok (grp p q g h) w := by
  unfold grp gl nl
  kernel_rfl
theorem known_any {p q g h : Nat} (hp : p = 23) (hq : q = 11) (hg : g = 4) (hh : h = 9) (w : World) : Calls Try.prog 47 #[] w fun e w' => e = .returned (grp p q g h) ∧ Below w.heap.size w w' := by
  have o1 := o8_lit p 23 (by omega) (by omega)
  have o2 := o8_lit q 11 (by omega) (by omega)
  have o3 := o8_lit g 4 (by omega) (by omega)
  have o4 := o8_lit h 9 (by omega) (by omega)
  clear hp hq hg hh
  have hR := Rep.init w
  go_enter Try.func47, Try.ntmps47
  go_wp2_with (first | (refine' xAe hR rfl rfl rfl ?_; clear hR; intro blk w hR) | (refine' xAb hR rfl rfl inferInstance ?_; clear hR; intro blk w hR) | (refine' xAc hR rfl rfl rfl inferInstance ?hm ?hn ?_; (case hm => first | with_reducible assumption | repeat (first | exact .head _ | apply mT)); (case hn => first | rfl | simp)) | (refine' xAd hR rfl rfl rfl inferInstance ?hm ?hv ?hn ?_; (case hm => first | with_reducible assumption | repeat (first | exact .head _ | apply mT)); (case hv => first | with_reducible assumption | (simp only [kC, kD, kE, kF]; try rfl)); (case hn => first | rfl | simp)) | (refine' xBg hR rfl rfl rfl inferInstance ?hm ?hv ?_; (case hm => first | with_reducible assumption | repeat (first | exact .head _ | apply mT)); (case hv => first | rfl | with_reducible assumption)) | (refine' xAa hR rfl rfl rfl inferInstance rfl ?hs ?zone ?zvn ?hn ?_; (case hs => repeat (first | exact xAf.head | apply xAf.tail)); (case zone => first | rfl | with_reducible assumption); (case zvn => first | rfl | simp); (case hn => first | rfl | simp); clear hR; intro w hR) | (refine' xBe hR rfl rfl rfl inferInstance rfl rfl ?hs ?hn ?hl ?_; (case hs => repeat (first | exact xAf.head | apply xAf.tail)); (case hn => first | exact oD rfl | (show _ < 4; with_reducible assumption) | (simp; try omega)); (case hl => first | with_reducible assumption | (simp only [nl, kA, kB]; first | done | rfl) | rfl); clear hR; intro w hR) | (go_at_call 111; refine (o1 _).mono ?_; rintro e w ⟨rfl, hb⟩; replace hR := hR.call hb; clear hb) | (go_at_call 111; refine (o2 _).mono ?_; rintro e w ⟨rfl, hb⟩; replace hR := hR.call hb; clear hb) | (go_at_call 111; refine (o3 _).mono ?_; rintro e w ⟨rfl, hb⟩; replace hR := hR.call hb; clear hb) | (go_at_call 111; refine (o4 _).mono ?_; rintro e w ⟨rfl, hb⟩; replace hR := hR.call hb; clear hb) | (refine' xCf (t := 26) rfl rfl ?hrun ?_; (case hrun => simp only [List.map_toArray, List.map_cons, List.map_nil]; exact build_g4 _ _ _ _ _)))
  (refine' bodyPost_ret (xBt Try.results47 rfl (hR.loadAll (P := Try.prog) (ty := 26) ?hm ?hn)) rfl ⟨?_, hR.below⟩; (case hm => exact .head _); (case hn => rfl))
  rfl
@[go_sem] theorem index_four0 (x0 x1 x2 x3 : Int) (w : World) : (Instr.index 129 (.agg #[.int .i64 x0, .int .i64 x1, .int .i64 x2, .int .i64 x3]) (.int .i64 0)).run Try.prog w = .ok (.int .i64 x0) w := by kernel_rfl
@[go_sem] theorem index_four1 (x0 x1 x2 x3 : Int) (w : World) : (Instr.index 129 (.agg #[.int .i64 x0, .int .i64 x1, .int .i64 x2, .int .i64 x3]) (.int .i64 1)).run Try.prog w = .ok (.int .i64 x1) w := by kernel_rfl
@[go_sem] theorem index_four2 (x0 x1 x2 x3 : Int) (w : World) : (Instr.index 129 (.agg #[.int .i64 x0, .int .i64 x1, .int .i64 x2, .int .i64 x3]) (.int .i64 2)).run Try.prog w = .ok (.int .i64 x2) w := by kernel_rfl
@[go_sem] theorem index_four3 (x0 x1 x2 x3 : Int) (w : World) : (Instr.index 129 (.agg #[.int .i64 x0, .int .i64 x1, .int .i64 x2, .int .i64 x3]) (.int .i64 3)).run Try.prog w = .ok (.int .i64 x3) w := by kernel_rfl
end Go.Proofs.Ythbcgcncoggagaa
