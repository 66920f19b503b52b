import Derived.Test.YtaaahfjpnggkbaaGreatDoorZR4
import Derived.Test.YtaaahfjpnggkbaaGreatDoorZY
set_option linter.unusedSimpArgs false
set_option linter.unusedVariables false
set_option maxRecDepth 100000
set_option maxHeartbeats 20000000
namespace Go.Proofs.YtaaahfjpnggkbaaGreatDoor
open Go.RowKit
attribute [local irreducible] Calls
theorem rone_any (n1 : Nat) (h1 : n1 = 1) (w : World) : Calls Tryz.prog 186 #[] w fun e w' => e = .returned (num n1) ∧ Below w.heap.size w w' := by
 have o1 : ∀ w, Calls Tryz.prog 131 #[.int .u64 1] w fun e w' => e = .returned (num n1) ∧ Below w.heap.size w w' := fun w => by
  rw [h1]; exact xCr 1 (by decide) w
 have hR := Rep.init w
 go_enter Tryz.func186, Tryz.ntmps186
 go_wp2_with (first | (refine' aAq hR ?_; clear hR; intro blk w hR) | (refine' aBq hR ?_; clear hR; intro blk w hR) | (refine' aCq hR ?_) | (refine' aDq hR ?_) | (refine' aEq hR ?_) | (refine' aFq hR ?_; clear hR; intro w hR) | (refine' aGq hR ?_; clear hR; intro w hR) | (go_at_call 131; refine (o1 _).mono ?_; rintro e w ⟨rfl, hb⟩; replace hR := hR.call hb; clear hb))
 (refine' bodyPost_ret (xBc Tryz.results186 rfl (hR.loadAll (P := Tryz.prog) (ty := 24) ?hm ?hn)) rfl ⟨?_, hR.below⟩; (case hm => first | with_reducible assumption | repeat (first | exact .head _ | apply mT)); (case hn => first | rfl | simp))
 rw [h1]
section
variable {p q g h a b r : Nat} {e : Int} {s : Bool}
theorem rmay_lit (hp : p < B) (ha : a < B) (hs : decide (mayG p a) = s) (w : World) : Calls Tryz.prog 112 #[grp p q g h, num a] w fun e' w' =>
  e' = .returned (.bool s) ∧ Below w.heap.size w w' := by
 have tp := gl_p p q g h
 obtain ⟨n1, h1⟩ : ∃ n, n = 1 := ⟨_, rfl⟩
 have o1 := fun w => rone_any n1 h1 w
 have L1 : n1 < B := lt_B (by omega)
 have c1 := rc_lit hp L1 rfl
 have c2 := rc_lit ha hp rfl
 have k1 := cmpN_gt p n1
 have k2 := cmpN_lt a p
 have hc : (decide (0 < cmpN p n1) = false ∧ s = false) ∨ (decide (0 < cmpN p n1) = true ∧ eqN a 0 = true ∧ s = false) ∨ (decide (0 < cmpN p n1) = true ∧ eqN a 0 = false ∧ decide (cmpN a p < 0) = false ∧ s = false) ∨ (decide (0 < cmpN p n1) = true ∧ eqN a 0 = false ∧ decide (cmpN a p < 0) = true ∧ s = true) := by
  by_cases x1 : 1 < p
  ·by_cases x2 : a = 0
   ·exact .inr (.inl ⟨decide_eq_true (k1.mpr (by omega)), xFk (by omega), by rw [← hs]; exact decide_eq_false fun h => h.2.1 x2⟩)
   ·by_cases x3 : a < p
    ·exact .inr (.inr (.inr ⟨decide_eq_true (k1.mpr (by omega)), xDk ha xEs (by omega), decide_eq_true (k2.mpr x3), by rw [← hs]; exact decide_eq_true ⟨x1, x2, x3⟩⟩))
    ·exact .inr (.inr (.inl ⟨decide_eq_true (k1.mpr (by omega)), xDk ha xEs (by omega), decide_eq_false (fun h => x3 (k2.mp h)), by rw [← hs]; exact decide_eq_false fun h => x3 h.2.2⟩))
  ·exact .inl ⟨decide_eq_false (fun h => x1 (by have := k1.mp h; omega)), by rw [← hs]; exact decide_eq_false fun h => x1 h.1⟩
 generalize cmpN p n1 = x1 at *
 generalize cmpN a p = x2 at *
 clear hs k1 k2 h1 L1
 have hR := Rep.init w
 rcases hc with ⟨j1, rfl⟩ | ⟨j1, j2, rfl⟩ | ⟨j1, j2, j3, rfl⟩ | ⟨j1, j2, j3, rfl⟩
 all_goals
  go_enter Tryz.func112, Tryz.ntmps112
  go_wp2_with (first | (refine' aAq hR ?_; clear hR; intro blk w hR) | (refine' aBq hR ?_; clear hR; intro blk w hR) | (refine' aCq hR ?_) | (refine' aDq hR ?_) | (refine' aEq hR ?_) | (refine' aFq hR ?_; clear hR; intro w hR) | (refine' aGq hR ?_; clear hR; intro w hR) | fail)
  refine xAe hR [0, 0, 0, 0, 0, 0, 0, 0, 0, 0, 0, 0, 0, 0, 0, 0, 0, 2] [] xBo (by kernel_rfl) rfl rfl (fun K hK => ?_)
  clear hR
  repeat ((first | (refine xAy ?_) | (refine' xAk (by decide) rfl (.inl rfl) rfl ?ha ?_) | (refine' xAk (by decide) rfl (.inr rfl) rfl ?ha ?_) | (refine' aHq ?ha ?_) | (refine' aIq ?ha ?_) | (refine' aJq ?ha ?_) | (refine' aKq ?ha ?_) | (refine' aLq ?ha ?_) | ((first | refine' xAc (by decide) rfl rfl rfl rfl (fun w => ?hq) ?ha ?_ | refine' xAs (by decide) rfl rfl rfl rfl (fun w => ?hq) ?ha ?_ | refine' xAi (by decide) rfl rfl rfl (fun w => ?hq) ?ha ?_ | refine' xAb (by decide) rfl rfl rfl (fun w => ?hq) ?ha ?_ | refine' xAh (by decide) rfl rfl rfl (fun w => ?hq) ?ha ?_ | refine' xAq (by decide) rfl rfl rfl rfl (fun w => ?hq) ?ha ?_ | refine' xAr (by decide) rfl rfl rfl rfl rfl rfl (fun w => ?hq) ?ha ?_ | refine' xAo (by decide) rfl rfl (fun w => ?hq) ?ha ?_ | refine' xAj (by decide) rfl rfl rfl (fun w => ?hq) ?ha ?_ | refine' xAp (by decide) rfl rfl rfl (fun w => ?hq) ?ha ?_); (case hq => go_simp; try rfl)) | (refine' xAf (by decide) rfl rfl rfl ?ha ?_) | (refine' xAx (by decide) rfl rfl rfl rfl ?ha ?_) | (refine' xAw (by decide) rfl ?ha ?_) | (refine' xAt rfl rfl rfl (xAv Tryz.func186 (by kernel_rfl) (by kernel_rfl) _) (fun w => o1 w) ?ha ?_) | (refine' xAt rfl rfl rfl (xAv Tryz.func185 (by kernel_rfl) (by kernel_rfl) _) (fun w => c1 w) ?ha ?_) | (refine' xAt rfl rfl rfl (xAv Tryz.func185 (by kernel_rfl) (by kernel_rfl) _) (fun w => c2 w) ?ha ?_)); try (case ha => simp only [kP, kQ, kA, kB]; try rfl))
  refine xBb (hK _ _ ?_)
  clear hK K
  refine xBe (fun Q hQ => ?_)
  try simp only [List.nil_append, List.cons_append]
  repeat ((first | refine' xAm rfl (.inl rfl) rfl ?hk ?ha ?_ | refine' xAm rfl (.inr rfl) rfl ?hk ?ha ?_ | (refine' aMq ?hk ?ha ?_) | (refine' aNq ?hk ?ha ?_) | (refine' aOq ?hk ?ha ?_) | (refine' xAz rfl (fun w => ?hq) ?hk ?ha ?_; (case hq => go_simp; try rfl))); (case hk => intro p hp; first | exact absurd hp List.not_mem_nil | (obtain rfl := List.mem_singleton.1 hp; repeat (first | exact List.Mem.head _ | apply mT))); (case ha => simp only [kP, kQ, kA, kB]; try rfl))
  refine xBd (fun w hR => hQ _ _ ?_)
  clear hQ Q
  go_wp2_with (first | (refine' aAq hR ?_; clear hR; intro blk w hR) | (refine' aBq hR ?_; clear hR; intro blk w hR) | (refine' aCq hR ?_) | (refine' aDq hR ?_) | (refine' aEq hR ?_) | (refine' aFq hR ?_; clear hR; intro w hR) | (refine' aGq hR ?_; clear hR; intro w hR) | fail)
  go_ret
  exact ⟨rfl, hR.below⟩
end
end Go.Proofs.YtaaahfjpnggkbaaGreatDoor
