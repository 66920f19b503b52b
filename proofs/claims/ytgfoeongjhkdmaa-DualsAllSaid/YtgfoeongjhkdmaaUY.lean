/- The contracts of groups.may, Mul, Inv, Exp, In. -/
import Derived.Test.YtgfoeongjhkdmaaUN
import Derived.Test.YtgfoeongjhkdmaaUO
set_option linter.unusedVariables false
set_option linter.unusedSimpArgs false
namespace Go.Proofs.Ytgfoeongjhkdmaa
open Go.RowKit
attribute [local irreducible] Calls
def mayG (p a : Nat) : Prop := 1 < p ∧ a ≠ 0 ∧ a < p
instance (p a : Nat) : Decidable (mayG p a) := by unfold mayG; infer_instance
theorem z_num : num 0 = Value.agg #[.int .u64 0, .int .u64 0, .int .u64 0, .int .u64 0] := xCq.symm
section
variable {p q g h a b r : Nat} {e : Int} {s : Bool}
set_option maxRecDepth 100000 in
set_option maxHeartbeats 2000000 in
theorem may_lit (hp : p < B) (ha : a < B) (hs : decide (mayG p a) = s) (w : World) : Calls Try.prog 84 #[grp p q g h, num a] w fun e' w' =>
    e' = .returned (.bool s) ∧ Below w.heap.size w w' := by
  have tp := gl_p p q g h
  obtain ⟨n0, h0⟩ : ∃ n, n = 0 := ⟨_, rfl⟩
  obtain ⟨n1, h1⟩ : ∃ n, n = 1 := ⟨_, rfl⟩
  have o0 : ∀ w, Calls Try.prog 32 #[.int .u64 0] w fun e w' => e = .returned (num n0) ∧ Below w.heap.size w w' := fun w => by
    rw [h0]; exact of_any 0 (by decide) w
  have o1 : ∀ w, Calls Try.prog 32 #[.int .u64 1] w fun e w' => e = .returned (num n1) ∧ Below w.heap.size w w' := fun w => by
    rw [h1]; exact of_any 1 (by decide) w
  have L0 : n0 < B := lt_B (by omega)
  have L1 : n1 < B := lt_B (by omega)
  have c1 := xDb hp L1 rfl
  have c2 := xDb ha hp rfl
  have k1 := cmpN_gt p n1
  have k2 := cmpN_lt a p
  have hc : (decide (0 < cmpN p n1) = false ∧ s = false) ∨ (decide (0 < cmpN p n1) = true ∧ eqN a n0 = true ∧ s = false) ∨ (decide (0 < cmpN p n1) = true ∧ eqN a n0 = false ∧ decide (cmpN a p < 0) = false ∧ s = false) ∨ (decide (0 < cmpN p n1) = true ∧ eqN a n0 = false ∧ decide (cmpN a p < 0) = true ∧ s = true) := by
    by_cases x1 : 1 < p
    · by_cases x2 : a = 0
      · exact .inr (.inl ⟨decide_eq_true (k1.mpr (by omega)), eqN_yes (by omega), by rw [← hs]; exact decide_eq_false fun h => h.2.1 x2⟩)
      · by_cases x3 : a < p
        · exact .inr (.inr (.inr ⟨decide_eq_true (k1.mpr (by omega)), eqN_no ha L0 (by omega), decide_eq_true (k2.mpr x3), by rw [← hs]; exact decide_eq_true ⟨x1, x2, x3⟩⟩))
        · exact .inr (.inr (.inl ⟨decide_eq_true (k1.mpr (by omega)), eqN_no ha L0 (by omega), decide_eq_false (fun h => x3 (k2.mp h)), by rw [← hs]; exact decide_eq_false fun h => x3 h.2.2⟩))
    · exact .inl ⟨decide_eq_false (fun h => x1 (by have := k1.mp h; omega)), by rw [← hs]; exact decide_eq_false fun h => x1 h.1⟩
  generalize cmpN p n1 = x1 at *
  generalize cmpN a p = x2 at *
  clear hs k1 k2 h0 h1 L0 L1
  have hR := Rep.init w
  rcases hc with ⟨j1, rfl⟩ | ⟨j1, j2, rfl⟩ | ⟨j1, j2, j3, rfl⟩ | ⟨j1, j2, j3, rfl⟩
  all_goals
    go_enter Try.func84, Try.ntmps84
    go_wp2_with (first | (refine' xAb hR rfl rfl rfl ?_; clear hR; intro blk w hR) | (refine' xAa hR rfl rfl inferInstance ?_; clear hR; intro blk w hR) | (refine' aAq hR rfl rfl rfl inferInstance ?_) | (refine' aBq hR rfl rfl rfl inferInstance ?_) | (refine' aCq hR rfl rfl rfl inferInstance ?_) | (refine' aDq hR rfl rfl rfl inferInstance rfl ?_; clear hR; intro w hR) | (refine' aEq hR rfl rfl rfl inferInstance rfl rfl ?_; clear hR; intro w hR) | fail)
    refine xAi hR [0, 0, 0, 0, 0, 0, 0, 0, 0, 0, 0, 0, 0, 0, 0, 0, 0, 2] [] xCf (by kernel_rfl) rfl rfl (fun K hK => ?_)
    clear hR
    repeat ((first | (refine xBl ?_) | (refine' xAr (by decide) rfl (.inl rfl) rfl ?ha ?_) | (refine' xAr (by decide) rfl (.inr rfl) rfl ?ha ?_) | (refine' xAp rfl rfl rfl inferInstance ?hm ?hn ?ha ?_; (case hm => first | with_reducible assumption | repeat (first | exact .head _ | apply mT)); (case hn => first | rfl | simp)) | (refine' xAk rfl rfl rfl inferInstance ?hm ?hv ?hn ?ha ?_; (case hm => first | with_reducible assumption | repeat (first | exact .head _ | apply mT)); (case hv => first | with_reducible assumption | (simp only [kC, kD, kE, kF]; try rfl)); (case hn => first | rfl | simp)) | (refine' xAf rfl rfl rfl inferInstance ?hm ?hv ?ha ?_; (case hm => first | with_reducible assumption | repeat (first | exact .head _ | apply mT)); (case hv => first | rfl | with_reducible assumption)) | (refine' xAl rfl rfl rfl inferInstance ?hm ?hv ?hn ?ha ?_; (case hm => first | with_reducible assumption | repeat (first | exact .head _ | apply mT)); (case hv => first | with_reducible assumption | (simp only [kC, kD, kE, kF]; try rfl)); (case hn => first | rfl | simp)) | (refine' xAe rfl rfl rfl inferInstance ?hm ?hv ?ha ?_; (case hm => first | with_reducible assumption | repeat (first | exact .head _ | apply mT)); (case hv => first | rfl | with_reducible assumption)) | ((first | refine' xAd (by decide) rfl rfl rfl rfl (fun w => ?hq) ?ha ?_ | refine' xBb (by decide) rfl rfl rfl rfl (fun w => ?hq) ?ha ?_ | refine' xAm (by decide) rfl rfl rfl (fun w => ?hq) ?ha ?_ | refine' xAc (by decide) rfl rfl rfl (fun w => ?hq) ?ha ?_ | refine' xAo (by decide) rfl rfl rfl (fun w => ?hq) ?ha ?_ | refine' xBd (by decide) rfl rfl rfl rfl (fun w => ?hq) ?ha ?_ | refine' xBa (by decide) rfl rfl rfl rfl rfl rfl (fun w => ?hq) ?ha ?_ | refine' xBe (by decide) rfl rfl (fun w => ?hq) ?ha ?_ | refine' xAn (by decide) rfl rfl rfl (fun w => ?hq) ?ha ?_ | refine' xBc (by decide) rfl rfl rfl (fun w => ?hq) ?ha ?_); (case hq => go_simp; try rfl)) | (refine' xAg (by decide) rfl rfl rfl ?ha ?_) | (refine' xBk (by decide) rfl rfl rfl rfl ?ha ?_) | (refine' xBm (by decide) rfl ?ha ?_) | (refine' xBj rfl rfl rfl (xBi Try.func32 (by kernel_rfl) (by kernel_rfl) _) (fun w => o0 w) ?ha ?_) | (refine' xBj rfl rfl rfl (xBi Try.func32 (by kernel_rfl) (by kernel_rfl) _) (fun w => o1 w) ?ha ?_) | (refine' xBj rfl rfl rfl (xBi Try.func74 (by kernel_rfl) (by kernel_rfl) _) (fun w => c1 w) ?ha ?_) | (refine' xBj rfl rfl rfl (xBi Try.func74 (by kernel_rfl) (by kernel_rfl) _) (fun w => c2 w) ?ha ?_)); try (case ha => simp only [kP, kQ, kA, kB]; try rfl))
    refine xBp (hK _ _ ?_)
    clear hK K
    refine xBw (fun Q hQ => ?_)
    try simp only [List.nil_append, List.cons_append]
    repeat ((first | refine' xBf rfl (.inl rfl) rfl ?hk ?ha ?_ | refine' xBf rfl (.inr rfl) rfl ?hk ?ha ?_ | (refine' xAy rfl rfl rfl inferInstance rfl ?hs rfl rfl ?hn ?hk ?ha ?_; (case hs => repeat (first | exact xAw.head | apply xAw.tail)); (case hn => first | rfl | simp)) | (refine' xAt rfl rfl rfl inferInstance rfl rfl ?hs ?hn ?hl ?hk ?ha ?_; (case hs => repeat (first | exact xAw.head | apply xAw.tail)); (case hn => first | exact oD rfl | (show _ < 4; with_reducible assumption) | (simp; try omega)); (case hl => first | with_reducible assumption | (simp only [nl, kA, kB]; first | done | rfl) | rfl)) | (refine' xAx rfl rfl rfl inferInstance rfl rfl ?hvn ?hs ?hn ?hl ?hk ?ha ?_; (case hvn => first | rfl | simp); (case hs => repeat (first | exact xAw.head | apply xAw.tail)); (case hn => first | exact oD rfl | (show _ < 4; with_reducible assumption) | (simp; try omega)); (case hl => first | with_reducible assumption | (simp only [nl, kA, kB]; first | done | rfl) | rfl)) | (refine' xBq rfl (fun w => ?hq) ?hk ?ha ?_; (case hq => go_simp; try rfl))); (case hk => intro p hp; first | exact absurd hp List.not_mem_nil | (obtain rfl := List.mem_singleton.1 hp; repeat (first | exact List.Mem.head _ | apply mT))); (case ha => simp only [kP, kQ, kA, kB]; try rfl))
    refine xBx (fun w hR => hQ _ _ ?_)
    clear hQ Q
    go_wp2_with (first | (refine' xAb hR rfl rfl rfl ?_; clear hR; intro blk w hR) | (refine' xAa hR rfl rfl inferInstance ?_; clear hR; intro blk w hR) | (refine' aAq hR rfl rfl rfl inferInstance ?_) | (refine' aBq hR rfl rfl rfl inferInstance ?_) | (refine' aCq hR rfl rfl rfl inferInstance ?_) | (refine' aDq hR rfl rfl rfl inferInstance rfl ?_; clear hR; intro w hR) | (refine' aEq hR rfl rfl rfl inferInstance rfl rfl ?_; clear hR; intro w hR) | fail)
    go_ret
    exact ⟨rfl, hR.below⟩
set_option maxRecDepth 100000 in
set_option maxHeartbeats 2000000 in
theorem gexp_lit {n : Nat} (hp : p < B) (ha : a < B) (hn : n < B) (hr : (if mayG p a then powN a n p else 0) = r) (he : (if mayG p a then (0 : Int) else 1) = e) (w : World) : Calls Try.prog 67 #[grp p q g h, num a, num n] w fun e' w' =>
    e' = .returned (.tuple #[num r, .int .i64 e]) ∧ Below w.heap.size w w' := by
  have tp := gl_p p q g h
  by_cases ok : mayG p a
  · rw [if_pos ok] at hr he
    have m1 := may_lit (q := q) (g := g) (h := h) hp ha (decide_eq_true ok)
    have x1 := mexp_lit (r := r) (e := e) ha hn hp (by rw [if_pos ⟨ok.1, ok.2.2⟩]; exact hr) (by rw [if_pos ⟨ok.1, ok.2.2⟩]; exact he)
    clear ok hr he
    have hR := Rep.init w
    go_enter Try.func67, Try.ntmps67
    go_wp2_with (first | (refine' xAb hR rfl rfl rfl ?_; clear hR; intro blk w hR) | (refine' xAa hR rfl rfl inferInstance ?_; clear hR; intro blk w hR) | (refine' aAq hR rfl rfl rfl inferInstance ?_) | (refine' aBq hR rfl rfl rfl inferInstance ?_) | (refine' aCq hR rfl rfl rfl inferInstance ?_) | (refine' aDq hR rfl rfl rfl inferInstance rfl ?_; clear hR; intro w hR) | (refine' aEq hR rfl rfl rfl inferInstance rfl rfl ?_; clear hR; intro w hR) | (go_at_call 84; refine (m1 _).mono ?_; rintro e w ⟨rfl, hb⟩; replace hR := hR.call hb; clear hb) | (go_at_call 85; refine (x1 _).mono ?_; rintro e w ⟨rfl, hb⟩; replace hR := hR.call hb; clear hb))
    (refine' bodyPost_ret (xBo Try.results67 rfl (hR.loadAll (P := Try.prog) (ty := 24) ?hm ?hn)) rfl ⟨?_, hR.below⟩; (case hm => first | with_reducible assumption | repeat (first | exact .head _ | apply mT)); (case hn => first | rfl | simp))
    rfl
  · rw [if_neg ok] at hr he
    have m1 := may_lit (q := q) (g := g) (h := h) hp ha (decide_eq_false ok)
    subst hr he
    rw [z_num]
    clear ok
    have hR := Rep.init w
    go_enter Try.func67, Try.ntmps67
    go_wp2_with (first | (refine' xAb hR rfl rfl rfl ?_; clear hR; intro blk w hR) | (refine' xAa hR rfl rfl inferInstance ?_; clear hR; intro blk w hR) | (refine' aAq hR rfl rfl rfl inferInstance ?_) | (refine' aBq hR rfl rfl rfl inferInstance ?_) | (refine' aCq hR rfl rfl rfl inferInstance ?_) | (refine' aDq hR rfl rfl rfl inferInstance rfl ?_; clear hR; intro w hR) | (refine' aEq hR rfl rfl rfl inferInstance rfl rfl ?_; clear hR; intro w hR) | (go_at_call 84; refine (m1 _).mono ?_; rintro e w ⟨rfl, hb⟩; replace hR := hR.call hb; clear hb))
    (refine' bodyPost_ret (xBo Try.results67 rfl (hR.loadAll (P := Try.prog) (ty := 24) ?hm ?hn)) rfl ⟨?_, hR.below⟩; (case hm => first | with_reducible assumption | repeat (first | exact .head _ | apply mT)); (case hn => first | rfl | simp))
    rfl
def inG (p q a : Nat) : Prop := mayG p a ∧ powN a q p = 1
set_option maxRecDepth 100000 in
set_option maxHeartbeats 2000000 in
theorem gin_lit (hp : p < B) (hq : q < B) (ha : a < B) (hs : (s = true ↔ inG p q a)) (w : World) : Calls Try.prog 66 #[grp p q g h, num a] w fun e' w' =>
    e' = .returned (.bool s) ∧ Below w.heap.size w w' := by
  have tq := gl_q p q g h
  obtain ⟨n1, h1⟩ : ∃ n, n = 1 := ⟨_, rfl⟩
  have o1 : ∀ w, Calls Try.prog 32 #[.int .u64 1] w fun e w' => e = .returned (num n1) ∧ Below w.heap.size w w' := fun w => by
    rw [h1]; exact of_any 1 (by decide) w
  have L1 : n1 < B := lt_B (by omega)
  by_cases ok : mayG p a
  · obtain ⟨x, hx⟩ : ∃ x, powN a q p = x := ⟨_, rfl⟩
    have lx : x < p := by rw [← hx]; exact pow_lt' ok.1 _ _
    have x1 := gexp_lit (q := q) (g := g) (h := h) (r := x) (e := 0) hp ha hq (by rw [if_pos ok]; exact hx) (if_pos ok)
    have es : eqN x n1 = s := by
      by_cases e1 : x = 1
      · rw [eqN_yes (by omega)]
        exact (hs.mpr ⟨ok, by rw [hx, e1]⟩).symm
      · rw [eqN_no (by omega) L1 (by omega)]
        cases s with
        | false => rfl
        | true => exact absurd (hs.mp rfl).2 (by rw [hx]; exact e1)
    clear hs hx lx ok h1 L1
    have hR := Rep.init w
    cases s
    all_goals
      go_enter Try.func66, Try.ntmps66
      go_wp2_with (first | (refine' xAb hR rfl rfl rfl ?_; clear hR; intro blk w hR) | (refine' xAa hR rfl rfl inferInstance ?_; clear hR; intro blk w hR) | (refine' aAq hR rfl rfl rfl inferInstance ?_) | (refine' aBq hR rfl rfl rfl inferInstance ?_) | (refine' aCq hR rfl rfl rfl inferInstance ?_) | (refine' aDq hR rfl rfl rfl inferInstance rfl ?_; clear hR; intro w hR) | (refine' aEq hR rfl rfl rfl inferInstance rfl rfl ?_; clear hR; intro w hR) | (go_at_call 67; refine (x1 _).mono ?_; rintro e w ⟨rfl, hb⟩; replace hR := hR.call hb; clear hb))
      refine xAi hR [0, 0, 0, 0, 0, 0, 0, 2] [] xCf (by kernel_rfl) rfl rfl (fun K hK => ?_)
      clear hR
      repeat ((first | (refine xBl ?_) | (refine' xAr (by decide) rfl (.inl rfl) rfl ?ha ?_) | (refine' xAr (by decide) rfl (.inr rfl) rfl ?ha ?_) | (refine' xAp rfl rfl rfl inferInstance ?hm ?hn ?ha ?_; (case hm => first | with_reducible assumption | repeat (first | exact .head _ | apply mT)); (case hn => first | rfl | simp)) | (refine' xAk rfl rfl rfl inferInstance ?hm ?hv ?hn ?ha ?_; (case hm => first | with_reducible assumption | repeat (first | exact .head _ | apply mT)); (case hv => first | with_reducible assumption | (simp only [kC, kD, kE, kF]; try rfl)); (case hn => first | rfl | simp)) | (refine' xAf rfl rfl rfl inferInstance ?hm ?hv ?ha ?_; (case hm => first | with_reducible assumption | repeat (first | exact .head _ | apply mT)); (case hv => first | rfl | with_reducible assumption)) | (refine' xAl rfl rfl rfl inferInstance ?hm ?hv ?hn ?ha ?_; (case hm => first | with_reducible assumption | repeat (first | exact .head _ | apply mT)); (case hv => first | with_reducible assumption | (simp only [kC, kD, kE, kF]; try rfl)); (case hn => first | rfl | simp)) | (refine' xAe rfl rfl rfl inferInstance ?hm ?hv ?ha ?_; (case hm => first | with_reducible assumption | repeat (first | exact .head _ | apply mT)); (case hv => first | rfl | with_reducible assumption)) | ((first | refine' xAd (by decide) rfl rfl rfl rfl (fun w => ?hq) ?ha ?_ | refine' xBb (by decide) rfl rfl rfl rfl (fun w => ?hq) ?ha ?_ | refine' xAm (by decide) rfl rfl rfl (fun w => ?hq) ?ha ?_ | refine' xAc (by decide) rfl rfl rfl (fun w => ?hq) ?ha ?_ | refine' xAo (by decide) rfl rfl rfl (fun w => ?hq) ?ha ?_ | refine' xBd (by decide) rfl rfl rfl rfl (fun w => ?hq) ?ha ?_ | refine' xBa (by decide) rfl rfl rfl rfl rfl rfl (fun w => ?hq) ?ha ?_ | refine' xBe (by decide) rfl rfl (fun w => ?hq) ?ha ?_ | refine' xAn (by decide) rfl rfl rfl (fun w => ?hq) ?ha ?_ | refine' xBc (by decide) rfl rfl rfl (fun w => ?hq) ?ha ?_); (case hq => go_simp; try rfl)) | (refine' xAg (by decide) rfl rfl rfl ?ha ?_) | (refine' xBk (by decide) rfl rfl rfl rfl ?ha ?_) | (refine' xBm (by decide) rfl ?ha ?_) | (refine' xBj rfl rfl rfl (xBi Try.func32 (by kernel_rfl) (by kernel_rfl) _) (fun w => o1 w) ?ha ?_)); try (case ha => simp only [kP, kQ, kA, kB]; try rfl))
      refine xBp (hK _ _ ?_)
      clear hK K
      refine xBw (fun Q hQ => ?_)
      try simp only [List.nil_append, List.cons_append]
      repeat ((first | refine' xBf rfl (.inl rfl) rfl ?hk ?ha ?_ | refine' xBf rfl (.inr rfl) rfl ?hk ?ha ?_ | (refine' xAy rfl rfl rfl inferInstance rfl ?hs rfl rfl ?hn ?hk ?ha ?_; (case hs => repeat (first | exact xAw.head | apply xAw.tail)); (case hn => first | rfl | simp)) | (refine' xAt rfl rfl rfl inferInstance rfl rfl ?hs ?hn ?hl ?hk ?ha ?_; (case hs => repeat (first | exact xAw.head | apply xAw.tail)); (case hn => first | exact oD rfl | (show _ < 4; with_reducible assumption) | (simp; try omega)); (case hl => first | with_reducible assumption | (simp only [nl, kA, kB]; first | done | rfl) | rfl)) | (refine' xAx rfl rfl rfl inferInstance rfl rfl ?hvn ?hs ?hn ?hl ?hk ?ha ?_; (case hvn => first | rfl | simp); (case hs => repeat (first | exact xAw.head | apply xAw.tail)); (case hn => first | exact oD rfl | (show _ < 4; with_reducible assumption) | (simp; try omega)); (case hl => first | with_reducible assumption | (simp only [nl, kA, kB]; first | done | rfl) | rfl)) | (refine' xBq rfl (fun w => ?hq) ?hk ?ha ?_; (case hq => go_simp; try rfl))); (case hk => intro p hp; first | exact absurd hp List.not_mem_nil | (obtain rfl := List.mem_singleton.1 hp; repeat (first | exact List.Mem.head _ | apply mT))); (case ha => simp only [kP, kQ, kA, kB]; try rfl))
      refine xBx (fun w hR => hQ _ _ ?_)
      clear hQ Q
      go_wp2_with (first | (refine' xAb hR rfl rfl rfl ?_; clear hR; intro blk w hR) | (refine' xAa hR rfl rfl inferInstance ?_; clear hR; intro blk w hR) | (refine' aAq hR rfl rfl rfl inferInstance ?_) | (refine' aBq hR rfl rfl rfl inferInstance ?_) | (refine' aCq hR rfl rfl rfl inferInstance ?_) | (refine' aDq hR rfl rfl rfl inferInstance rfl ?_; clear hR; intro w hR) | (refine' aEq hR rfl rfl rfl inferInstance rfl rfl ?_; clear hR; intro w hR) | fail)
      go_ret
      exact ⟨rfl, hR.below⟩
  · have x1 := gexp_lit (q := q) (g := g) (h := h) (r := 0) (e := 1) hp ha hq (by rw [if_neg ok]) (if_neg ok)
    have es : s = false := by
      cases s with
      | false => rfl
      | true => exact absurd (hs.mp rfl).1 ok
    subst es
    obtain ⟨n0, h0⟩ : ∃ n, n = 0 := ⟨_, rfl⟩
    have e0 : num 0 = num n0 := by rw [h0]
    rw [e0] at x1
    clear hs ok h1 L1 h0 e0
    have hR := Rep.init w
    go_enter Try.func66, Try.ntmps66
    go_wp2_with (first | (refine' xAb hR rfl rfl rfl ?_; clear hR; intro blk w hR) | (refine' xAa hR rfl rfl inferInstance ?_; clear hR; intro blk w hR) | (refine' aAq hR rfl rfl rfl inferInstance ?_) | (refine' aBq hR rfl rfl rfl inferInstance ?_) | (refine' aCq hR rfl rfl rfl inferInstance ?_) | (refine' aDq hR rfl rfl rfl inferInstance rfl ?_; clear hR; intro w hR) | (refine' aEq hR rfl rfl rfl inferInstance rfl rfl ?_; clear hR; intro w hR) | (go_at_call 67; refine (x1 _).mono ?_; rintro e w ⟨rfl, hb⟩; replace hR := hR.call hb; clear hb))
    refine xAi hR [0, 0, 0, 0, 0, 0, 0, 2] [] xCf (by kernel_rfl) rfl rfl (fun K hK => ?_)
    clear hR
    repeat ((first | (refine xBl ?_) | (refine' xAr (by decide) rfl (.inl rfl) rfl ?ha ?_) | (refine' xAr (by decide) rfl (.inr rfl) rfl ?ha ?_) | (refine' xAp rfl rfl rfl inferInstance ?hm ?hn ?ha ?_; (case hm => first | with_reducible assumption | repeat (first | exact .head _ | apply mT)); (case hn => first | rfl | simp)) | (refine' xAk rfl rfl rfl inferInstance ?hm ?hv ?hn ?ha ?_; (case hm => first | with_reducible assumption | repeat (first | exact .head _ | apply mT)); (case hv => first | with_reducible assumption | (simp only [kC, kD, kE, kF]; try rfl)); (case hn => first | rfl | simp)) | (refine' xAf rfl rfl rfl inferInstance ?hm ?hv ?ha ?_; (case hm => first | with_reducible assumption | repeat (first | exact .head _ | apply mT)); (case hv => first | rfl | with_reducible assumption)) | (refine' xAl rfl rfl rfl inferInstance ?hm ?hv ?hn ?ha ?_; (case hm => first | with_reducible assumption | repeat (first | exact .head _ | apply mT)); (case hv => first | with_reducible assumption | (simp only [kC, kD, kE, kF]; try rfl)); (case hn => first | rfl | simp)) | (refine' xAe rfl rfl rfl inferInstance ?hm ?hv ?ha ?_; (case hm => first | with_reducible assumption | repeat (first | exact .head _ | apply mT)); (case hv => first | rfl | with_reducible assumption)) | ((first | refine' xAd (by decide) rfl rfl rfl rfl (fun w => ?hq) ?ha ?_ | refine' xBb (by decide) rfl rfl rfl rfl (fun w => ?hq) ?ha ?_ | refine' xAm (by decide) rfl rfl rfl (fun w => ?hq) ?ha ?_ | refine' xAc (by decide) rfl rfl rfl (fun w => ?hq) ?ha ?_ | refine' xAo (by decide) rfl rfl rfl (fun w => ?hq) ?ha ?_ | refine' xBd (by decide) rfl rfl rfl rfl (fun w => ?hq) ?ha ?_ | refine' xBa (by decide) rfl rfl rfl rfl rfl rfl (fun w => ?hq) ?ha ?_ | refine' xBe (by decide) rfl rfl (fun w => ?hq) ?ha ?_ | refine' xAn (by decide) rfl rfl rfl (fun w => ?hq) ?ha ?_ | refine' xBc (by decide) rfl rfl rfl (fun w => ?hq) ?ha ?_); (case hq => go_simp; try rfl)) | (refine' xAg (by decide) rfl rfl rfl ?ha ?_) | (refine' xBk (by decide) rfl rfl rfl rfl ?ha ?_) | (refine' xBm (by decide) rfl ?ha ?_) | (refine' xBj rfl rfl rfl (xBi Try.func32 (by kernel_rfl) (by kernel_rfl) _) (fun w => o1 w) ?ha ?_)); try (case ha => simp only [kP, kQ, kA, kB]; try rfl))
    refine xBp (hK _ _ ?_)
    clear hK K
    refine xBw (fun Q hQ => ?_)
    try simp only [List.nil_append, List.cons_append]
    repeat ((first | refine' xBf rfl (.inl rfl) rfl ?hk ?ha ?_ | refine' xBf rfl (.inr rfl) rfl ?hk ?ha ?_ | (refine' xAy rfl rfl rfl inferInstance rfl ?hs rfl rfl ?hn ?hk ?ha ?_; (case hs => repeat (first | exact xAw.head | apply xAw.tail)); (case hn => first | rfl | simp)) | (refine' xAt rfl rfl rfl inferInstance rfl rfl ?hs ?hn ?hl ?hk ?ha ?_; (case hs => repeat (first | exact xAw.head | apply xAw.tail)); (case hn => first | exact oD rfl | (show _ < 4; with_reducible assumption) | (simp; try omega)); (case hl => first | with_reducible assumption | (simp only [nl, kA, kB]; first | done | rfl) | rfl)) | (refine' xAx rfl rfl rfl inferInstance rfl rfl ?hvn ?hs ?hn ?hl ?hk ?ha ?_; (case hvn => first | rfl | simp); (case hs => repeat (first | exact xAw.head | apply xAw.tail)); (case hn => first | exact oD rfl | (show _ < 4; with_reducible assumption) | (simp; try omega)); (case hl => first | with_reducible assumption | (simp only [nl, kA, kB]; first | done | rfl) | rfl)) | (refine' xBq rfl (fun w => ?hq) ?hk ?ha ?_; (case hq => go_simp; try rfl))); (case hk => intro p hp; first | exact absurd hp List.not_mem_nil | (obtain rfl := List.mem_singleton.1 hp; repeat (first | exact List.Mem.head _ | apply mT))); (case ha => simp only [kP, kQ, kA, kB]; try rfl))
    refine xBx (fun w hR => hQ _ _ ?_)
    clear hQ Q
    go_wp2_with (first | (refine' xAb hR rfl rfl rfl ?_; clear hR; intro blk w hR) | (refine' xAa hR rfl rfl inferInstance ?_; clear hR; intro blk w hR) | (refine' aAq hR rfl rfl rfl inferInstance ?_) | (refine' aBq hR rfl rfl rfl inferInstance ?_) | (refine' aCq hR rfl rfl rfl inferInstance ?_) | (refine' aDq hR rfl rfl rfl inferInstance rfl ?_; clear hR; intro w hR) | (refine' aEq hR rfl rfl rfl inferInstance rfl rfl ?_; clear hR; intro w hR) | fail)
    go_ret
    exact ⟨rfl, hR.below⟩
end
end Go.Proofs.Ytgfoeongjhkdmaa
namespace Go.Proofs.Ytgfoeongjhkdmaa
open Go.RowKit
attribute [local irreducible] Calls
theorem of8_any (n : Nat) (hn : n < 18446744073709551616) (w : World) : Calls Try.prog 60 #[.int .u64 (n : Int)] w fun e w' =>
    e = .returned (num n) ∧ Below w.heap.size w w' := by
  have hR := Rep.init w
  go_enter Try.func60, Try.ntmps60
  go_wp2_with (first | (refine' xAb hR rfl rfl rfl ?_; clear hR; intro blk w hR) | (refine' xAa hR rfl rfl inferInstance ?_; clear hR; intro blk w hR) | (refine' aAq hR rfl rfl rfl inferInstance ?_) | (refine' aBq hR rfl rfl rfl inferInstance ?_) | (refine' aCq hR rfl rfl rfl inferInstance ?_) | (refine' aDq hR rfl rfl rfl inferInstance rfl ?_; clear hR; intro w hR) | (refine' aEq hR rfl rfl rfl inferInstance rfl rfl ?_; clear hR; intro w hR) | (go_at_call 32; refine (of_any n hn _).mono ?_; rintro e w ⟨rfl, hb⟩; replace hR := hR.call hb; clear hb))
  (refine' bodyPost_ret (xBr Try.results60 rfl (hR.loadAll (P := Try.prog) (ty := 24) ?hm ?hn)) rfl ⟨?_, hR.below⟩; (case hm => first | with_reducible assumption | repeat (first | exact .head _ | apply mT)); (case hn => first | rfl | simp))
  rfl
theorem o8_lit (n : Nat) (k : Int) (hk : (n : Int) = k) (hn : n < 18446744073709551616) (w : World) : Calls Try.prog 60 #[.int .u64 k] w fun e w' =>
    e = .returned (num n) ∧ Below w.heap.size w w' := by
  subst hk; exact of8_any n hn w
theorem build_g4 (p q g h : Nat) (w : World) : (Instr.build 26 #[(0, .agg (nl p).toArray), (1, .agg (nl q).toArray), (2, .agg (nl g).toArray), (3, .agg (nl h).toArray)]).run Try.prog w = .ok (grp p q g h) w := by
  unfold grp gl nl
  kernel_rfl
theorem known_any {p q g h : Nat} (hp : p = 23) (hq : q = 11) (hg : g = 4) (hh : h = 9) (w : World) : Calls Try.prog 41 #[] w fun e w' => e = .returned (grp p q g h) ∧ Below w.heap.size w w' := by
  have o1 := o8_lit p 23 (by omega) (by omega)
  have o2 := o8_lit q 11 (by omega) (by omega)
  have o3 := o8_lit g 4 (by omega) (by omega)
  have o4 := o8_lit h 9 (by omega) (by omega)
  clear hp hq hg hh
  have hR := Rep.init w
  go_enter Try.func41, Try.ntmps41
  go_wp2_with (first | (refine' xAb hR rfl rfl rfl ?_; clear hR; intro blk w hR) | (refine' xAa hR rfl rfl inferInstance ?_; clear hR; intro blk w hR) | (refine' aAq hR rfl rfl rfl inferInstance ?_) | (refine' aBq hR rfl rfl rfl inferInstance ?_) | (refine' aCq hR rfl rfl rfl inferInstance ?_) | (refine' aDq hR rfl rfl rfl inferInstance rfl ?_; clear hR; intro w hR) | (refine' aEq hR rfl rfl rfl inferInstance rfl rfl ?_; clear hR; intro w hR) | (go_at_call 60; refine (o1 _).mono ?_; rintro e w ⟨rfl, hb⟩; replace hR := hR.call hb; clear hb) | (go_at_call 60; refine (o2 _).mono ?_; rintro e w ⟨rfl, hb⟩; replace hR := hR.call hb; clear hb) | (go_at_call 60; refine (o3 _).mono ?_; rintro e w ⟨rfl, hb⟩; replace hR := hR.call hb; clear hb) | (go_at_call 60; refine (o4 _).mono ?_; rintro e w ⟨rfl, hb⟩; replace hR := hR.call hb; clear hb) | (refine' wpList_build (t := 26) rfl rfl ?hrun ?_; (case hrun => simp only [List.map_toArray, List.map_cons, List.map_nil]; exact build_g4 _ _ _ _ _)))
  (refine' bodyPost_ret (xBr Try.results41 rfl (hR.loadAll (P := Try.prog) (ty := 26) ?hm ?hn)) rfl ⟨?_, hR.below⟩; (case hm => exact .head _); (case hn => rfl))
  rfl
end Go.Proofs.Ytgfoeongjhkdmaa
