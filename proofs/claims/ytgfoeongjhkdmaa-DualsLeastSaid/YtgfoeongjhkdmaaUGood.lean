/- Groups of small primes: the contract of balefirelaw08.Good. -/
import Derived.Test.YtgfoeongjhkdmaaUY
import Derived.Test.YtgfoeongjhkdmaaUL
set_option linter.unusedVariables false
set_option linter.unusedSimpArgs false
namespace Go.Proofs.Ytgfoeongjhkdmaa
open Go.RowKit
attribute [local irreducible] Calls
def goodG (p q g h : Nat) : Prop := p = 2 * q + 1 ∧ q < 2147483648 ∧ xCk p ∧ xCk q ∧ inG p q g ∧ inG p q h ∧ g ≠ 1 ∧ h ≠ 1
theorem wd_word {a : Nat} (h : a < 18446744073709551616) : wd a 0 = (a : Int) := by
  rw [wd_def, Nat.pow_zero, Nat.div_one, Nat.mod_eq_of_lt h]
set_option maxRecDepth 100000 in
set_option maxHeartbeats 8000000 in
theorem good_lit {p q g h : Nat} {s : Bool} (hp : p < B) (hq : q < B) (hg : g < B) (hh : h < B) (hs : s = true ↔ goodG p q g h) (w : World) : Calls Try.prog 43 #[grp p q g h] w fun e w' => e = .returned (.bool s) ∧ Below w.heap.size w w' := by
  classical
  have tp := gl_p p q g h
  have tq := gl_q p q g h
  have tg := gl_g p q g h
  have th := gl_h p q g h
  have b1 := bits_any p hp
  have b2 := bits_any q hq
  have np : blen p ≤ 32 ↔ p < 4294967296 := xBy p 32
  have nq : blen q ≤ 31 ↔ q < 2147483648 := xBy q 31
  have no : ¬ goodG p q g h → s = false := fun h => by
    cases s
    · rfl
    · exact absurd (hs.1 rfl) h
  obtain ⟨kp, hkp⟩ : ∃ k, blen p = k := ⟨_, rfl⟩
  obtain ⟨kq, hkq⟩ : ∃ k, blen q = k := ⟨_, rfl⟩
  rw [hkp] at np b1
  rw [hkq] at nq b2
  have hR := Rep.init w
  by_cases c1 : kp ≤ 32
  case neg =>
    obtain rfl := no fun hgd => c1 (np.2 (by have := hgd.2.2.1.2.1; omega))
    have d1 : decide (32 < (kp : Int)) = true := decide_eq_true (by omega)
    clear np nq hs no hkp hkq c1
    go_enter Try.func43, Try.ntmps43
    go_wp2_with (first | go_skip | (refine' xAb hR rfl rfl rfl ?_; clear hR; intro blk w hR) | (refine' xAa hR rfl rfl inferInstance ?_; clear hR; intro blk w hR) | (refine' aAq hR rfl rfl rfl inferInstance ?_) | (refine' aBq hR rfl rfl rfl inferInstance ?_) | (refine' aCq hR rfl rfl rfl inferInstance ?_) | (refine' aDq hR rfl rfl rfl inferInstance rfl ?_; clear hR; intro w hR) | (refine' aEq hR rfl rfl rfl inferInstance rfl rfl ?_; clear hR; intro w hR) | (refine' xAq hR rfl rfl rfl inferInstance ?hm ?hn ?_; (case hm => first | with_reducible assumption | repeat (first | exact .head _ | apply mT)); (case hn => first | rfl | simp)) | (refine' xAh hR rfl rfl rfl inferInstance ?hm ?hv ?_; (case hm => first | with_reducible assumption | repeat (first | exact .head _ | apply mT)); (case hv => first | rfl | with_reducible assumption)) | (refine' xAs hR rfl rfl rfl inferInstance ?hm ?hv ?hn ?_; (case hm => first | with_reducible assumption | repeat (first | exact .head _ | apply mT)); (case hv => first | with_reducible assumption | (simp only [kC, kD, kE, kF]; try rfl)); (case hn => first | rfl | simp)) | (go_at_call 30; refine (b1 _).mono ?_; rintro e w ⟨rfl, hb⟩; replace hR := hR.call hb; clear hb))
    go_ret
    exact ⟨rfl, hR.below⟩
  have d1 : decide (32 < (kp : Int)) = false := decide_eq_false (by omega)
  have lp := np.1 c1
  by_cases c2 : kq ≤ 31
  case neg =>
    obtain rfl := no fun hgd => c2 (nq.2 hgd.2.1)
    have d2 : decide (31 < (kq : Int)) = true := decide_eq_true (by omega)
    clear np nq hs no hkp hkq c1 c2 lp
    go_enter Try.func43, Try.ntmps43
    go_wp2_with (first | go_skip | (refine' xAb hR rfl rfl rfl ?_; clear hR; intro blk w hR) | (refine' xAa hR rfl rfl inferInstance ?_; clear hR; intro blk w hR) | (refine' aAq hR rfl rfl rfl inferInstance ?_) | (refine' aBq hR rfl rfl rfl inferInstance ?_) | (refine' aCq hR rfl rfl rfl inferInstance ?_) | (refine' aDq hR rfl rfl rfl inferInstance rfl ?_; clear hR; intro w hR) | (refine' aEq hR rfl rfl rfl inferInstance rfl rfl ?_; clear hR; intro w hR) | (refine' xAq hR rfl rfl rfl inferInstance ?hm ?hn ?_; (case hm => first | with_reducible assumption | repeat (first | exact .head _ | apply mT)); (case hn => first | rfl | simp)) | (refine' xAh hR rfl rfl rfl inferInstance ?hm ?hv ?_; (case hm => first | with_reducible assumption | repeat (first | exact .head _ | apply mT)); (case hv => first | rfl | with_reducible assumption)) | (refine' xAs hR rfl rfl rfl inferInstance ?hm ?hv ?hn ?_; (case hm => first | with_reducible assumption | repeat (first | exact .head _ | apply mT)); (case hv => first | with_reducible assumption | (simp only [kC, kD, kE, kF]; try rfl)); (case hn => first | rfl | simp)) | (go_at_call 30; refine (b1 _).mono ?_; rintro e w ⟨rfl, hb⟩; replace hR := hR.call hb; clear hb) | (go_at_call 30; refine (b2 _).mono ?_; rintro e w ⟨rfl, hb⟩; replace hR := hR.call hb; clear hb))
    go_ret
    exact ⟨rfl, hR.below⟩
  have d2 : decide (31 < (kq : Int)) = false := decide_eq_false (by omega)
  have lq := nq.1 c2
  have wp := wd_word (show p < 18446744073709551616 by omega)
  have wq := wd_word (show q < 18446744073709551616 by omega)
  obtain ⟨m, hm⟩ : ∃ m, 2 * q + 1 = m := ⟨_, rfl⟩
  have m1 : IntKind.u64.wrap (2 * (q : Int)) = ((2 * q : Nat) : Int) := by rw [IntKind.wrap_u64]; omega
  have m2 : IntKind.u64.wrap (((2 * q : Nat) : Int) + 1) = (m : Int) := by rw [IntKind.wrap_u64]; omega
  rw [← wq] at m1
  clear np nq hkp hkq c1 c2
  obtain ⟨q2, hq2⟩ : ∃ m, 2 * q = m := ⟨_, rfl⟩
  rw [hq2] at m1 m2
  by_cases c3 : p = m
  case neg =>
    obtain rfl := no fun hgd => c3 (by rw [← hm]; exact hgd.1)
    have d3 : ((p : Int) == (m : Int)) = false := by simp; omega
    rw [← wp] at d3
    clear hs no c3 lp lq hm hq2 wq wp
    go_enter Try.func43, Try.ntmps43
    go_wp2_with (first | go_skip | (refine' xAb hR rfl rfl rfl ?_; clear hR; intro blk w hR) | (refine' xAa hR rfl rfl inferInstance ?_; clear hR; intro blk w hR) | (refine' aAq hR rfl rfl rfl inferInstance ?_) | (refine' aBq hR rfl rfl rfl inferInstance ?_) | (refine' aCq hR rfl rfl rfl inferInstance ?_) | (refine' aDq hR rfl rfl rfl inferInstance rfl ?_; clear hR; intro w hR) | (refine' aEq hR rfl rfl rfl inferInstance rfl rfl ?_; clear hR; intro w hR) | (refine' xAq hR rfl rfl rfl inferInstance ?hm ?hn ?_; (case hm => first | with_reducible assumption | repeat (first | exact .head _ | apply mT)); (case hn => first | rfl | simp)) | (refine' xAh hR rfl rfl rfl inferInstance ?hm ?hv ?_; (case hm => first | with_reducible assumption | repeat (first | exact .head _ | apply mT)); (case hv => first | rfl | with_reducible assumption)) | (refine' xAs hR rfl rfl rfl inferInstance ?hm ?hv ?hn ?_; (case hm => first | with_reducible assumption | repeat (first | exact .head _ | apply mT)); (case hv => first | with_reducible assumption | (simp only [kC, kD, kE, kF]; try rfl)); (case hn => first | rfl | simp)) | (go_at_call 30; refine (b1 _).mono ?_; rintro e w ⟨rfl, hb⟩; replace hR := hR.call hb; clear hb) | (go_at_call 30; refine (b2 _).mono ?_; rintro e w ⟨rfl, hb⟩; replace hR := hR.call hb; clear hb))
    go_ret
    exact ⟨rfl, hR.below⟩
  have d3 : ((p : Int) == (m : Int)) = true := by simp; omega
  rw [← wp] at d3
  obtain ⟨n1, h1⟩ : ∃ n, n = 1 := ⟨_, rfl⟩
  have o1 := o8_lit n1 1 (by omega) (by omega)
  have L1 : n1 < B := lt_B (by omega)
  obtain ⟨s1, e1⟩ : ∃ b, smallB p = b := ⟨_, rfl⟩
  obtain ⟨s2, e2⟩ : ∃ b, smallB q = b := ⟨_, rfl⟩
  obtain ⟨s3, e3⟩ : ∃ b, decide (inG p q g) = b := ⟨_, rfl⟩
  obtain ⟨s4, e4⟩ : ∃ b, decide (inG p q h) = b := ⟨_, rfl⟩
  obtain ⟨s5, e5⟩ : ∃ b, eqN g n1 = b := ⟨_, rfl⟩
  obtain ⟨s6, e6⟩ : ∃ b, eqN h n1 = b := ⟨_, rfl⟩
  have y1 := small_lit p s1 (by omega) e1
  have y2 := small_lit q s2 (by omega) e2
  have y3 := gin_lit (g := g) (h := h) (s := s3) hp hq hg (by rw [← e3]; exact decide_eq_true_iff)
  have y4 := gin_lit (g := g) (h := h) (s := s4) hp hq hh (by rw [← e4]; exact decide_eq_true_iff)
  rw [← wp] at y1
  rw [← wq] at y2
  have hsm : ∀ n, smallB n = true ↔ xCk n := fun n => ⟨fun h => Classical.byContradiction fun h' => (by rw [smallB_no h'] at h; cases h), smallB_yes⟩
  have heq : ∀ x, x < B → (eqN x n1 = true ↔ x = 1) := fun x hx => ⟨fun h => Classical.byContradiction fun h' => (by rw [eqN_no hx L1 (by omega)] at h; cases h), fun h => eqN_yes (by omega)⟩
  have hc : (s1 = false ∧ s = false) ∨ (s1 = true ∧ s2 = false ∧ s = false) ∨ (s1 = true ∧ s2 = true ∧ s3 = false ∧ s = false) ∨ (s1 = true ∧ s2 = true ∧ s3 = true ∧ s4 = false ∧ s = false) ∨ (s1 = true ∧ s2 = true ∧ s3 = true ∧ s4 = true ∧ s5 = true ∧ s = false) ∨ (s1 = true ∧ s2 = true ∧ s3 = true ∧ s4 = true ∧ s5 = false ∧ s6 = true ∧ s = false) ∨ (s1 = true ∧ s2 = true ∧ s3 = true ∧ s4 = true ∧ s5 = false ∧ s6 = false ∧ s = true) := by
    have k1 := hsm p
    have k2 := hsm q
    rw [e1] at k1
    rw [e2] at k2
    have k3 : s3 = true ↔ inG p q g := by rw [← e3]; exact decide_eq_true_iff
    have k4 : s4 = true ↔ inG p q h := by rw [← e4]; exact decide_eq_true_iff
    have k5 := heq g hg
    have k6 := heq h hh
    rw [e5] at k5
    rw [e6] at k6
    have k7 : p = 2 * q + 1 := by omega
    have kk : s = true ↔ (s1 = true ∧ s2 = true ∧ s3 = true ∧ s4 = true ∧ s5 = false ∧ s6 = false) := by
      rw [hs, k1, k2, k3, k4]
      unfold goodG
      constructor
      · rintro ⟨_, _, a1, a2, a3, a4, a5, a6⟩
        exact ⟨a1, a2, a3, a4, (by cases s5; rfl; exact absurd (k5.1 rfl) a5), (by cases s6; rfl; exact absurd (k6.1 rfl) a6)⟩
      · rintro ⟨a1, a2, a3, a4, a5, a6⟩
        exact ⟨k7, lq, a1, a2, a3, a4, fun h => (by rw [k5.2 h] at a5; cases a5), fun h => (by rw [k6.2 h] at a6; cases a6)⟩
    clear k1 k2 k3 k4 k5 k6 k7 y1 y2 y3 y4 e1 e2 e3 e4 e5 e6 hs no hsm heq
    cases s1 <;> cases s2 <;> cases s3 <;> cases s4 <;> cases s5 <;> cases s6 <;> cases s <;> simp_all
  clear hs no hm hq2 lp lq c3 h1 L1 e1 e2 e3 e4 hsm heq wp wq
  rcases hc with ⟨rfl, rfl⟩ | ⟨rfl, rfl, rfl⟩ | ⟨rfl, rfl, rfl, rfl⟩ | ⟨rfl, rfl, rfl, rfl, rfl⟩ | ⟨rfl, rfl, rfl, rfl, rfl, rfl⟩ | ⟨rfl, rfl, rfl, rfl, rfl, rfl, rfl⟩ | ⟨rfl, rfl, rfl, rfl, rfl, rfl, rfl⟩
  all_goals
    go_enter Try.func43, Try.ntmps43
    go_wp2_with (first | go_skip | (refine' xAb hR rfl rfl rfl ?_; clear hR; intro blk w hR) | (refine' xAa hR rfl rfl inferInstance ?_; clear hR; intro blk w hR) | (refine' aAq hR rfl rfl rfl inferInstance ?_) | (refine' aBq hR rfl rfl rfl inferInstance ?_) | (refine' aCq hR rfl rfl rfl inferInstance ?_) | (refine' aDq hR rfl rfl rfl inferInstance rfl ?_; clear hR; intro w hR) | (refine' aEq hR rfl rfl rfl inferInstance rfl rfl ?_; clear hR; intro w hR) | (refine' xAq hR rfl rfl rfl inferInstance ?hm ?hn ?_; (case hm => first | with_reducible assumption | repeat (first | exact .head _ | apply mT)); (case hn => first | rfl | simp)) | (refine' xAh hR rfl rfl rfl inferInstance ?hm ?hv ?_; (case hm => first | with_reducible assumption | repeat (first | exact .head _ | apply mT)); (case hv => first | rfl | with_reducible assumption)) | (refine' xAs hR rfl rfl rfl inferInstance ?hm ?hv ?hn ?_; (case hm => first | with_reducible assumption | repeat (first | exact .head _ | apply mT)); (case hv => first | with_reducible assumption | (simp only [kC, kD, kE, kF]; try rfl)); (case hn => first | rfl | simp)) | (go_at_call 30; refine (b1 _).mono ?_; rintro e w ⟨rfl, hb⟩; replace hR := hR.call hb; clear hb) | (go_at_call 30; refine (b2 _).mono ?_; rintro e w ⟨rfl, hb⟩; replace hR := hR.call hb; clear hb))
    refine xAi hR [0, 0, 0, 0, 0, 0, 0, 0, 0, 0, 0, 0, 0, 0, 0, 0, 0, 0, 0, 0, 0, 0, 0, 0, 0, 0, 0, 0, 0, 0, 0, 0, 0, 0, 2] [] xCf (by kernel_rfl) rfl rfl (fun K hK => ?_)
    clear hR
    repeat ((first | (refine xBl ?_) | (refine' xAr (by decide) rfl (.inl rfl) rfl ?ha ?_) | (refine' xAr (by decide) rfl (.inr rfl) rfl ?ha ?_) | (refine' xAp rfl rfl rfl inferInstance ?hm ?hn ?ha ?_; (case hm => first | with_reducible assumption | repeat (first | exact .head _ | apply mT)); (case hn => first | rfl | simp)) | (refine' xAk rfl rfl rfl inferInstance ?hm ?hv ?hn ?ha ?_; (case hm => first | with_reducible assumption | repeat (first | exact .head _ | apply mT)); (case hv => first | with_reducible assumption | (simp only [kC, kD, kE, kF]; try rfl)); (case hn => first | rfl | simp)) | (refine' xAf rfl rfl rfl inferInstance ?hm ?hv ?ha ?_; (case hm => first | with_reducible assumption | repeat (first | exact .head _ | apply mT)); (case hv => first | rfl | with_reducible assumption)) | (refine' xAl rfl rfl rfl inferInstance ?hm ?hv ?hn ?ha ?_; (case hm => first | with_reducible assumption | repeat (first | exact .head _ | apply mT)); (case hv => first | with_reducible assumption | (simp only [kC, kD, kE, kF]; try rfl)); (case hn => first | rfl | simp)) | (refine' xAe rfl rfl rfl inferInstance ?hm ?hv ?ha ?_; (case hm => first | with_reducible assumption | repeat (first | exact .head _ | apply mT)); (case hv => first | rfl | with_reducible assumption)) | ((first | refine' xAd (by decide) rfl rfl rfl rfl (fun w => ?hq) ?ha ?_ | refine' xBb (by decide) rfl rfl rfl rfl (fun w => ?hq) ?ha ?_ | refine' xAm (by decide) rfl rfl rfl (fun w => ?hq) ?ha ?_ | refine' xAc (by decide) rfl rfl rfl (fun w => ?hq) ?ha ?_ | refine' xAo (by decide) rfl rfl rfl (fun w => ?hq) ?ha ?_ | refine' xBd (by decide) rfl rfl rfl rfl (fun w => ?hq) ?ha ?_ | refine' xBa (by decide) rfl rfl rfl rfl rfl rfl (fun w => ?hq) ?ha ?_ | refine' xBe (by decide) rfl rfl (fun w => ?hq) ?ha ?_ | refine' xAn (by decide) rfl rfl rfl (fun w => ?hq) ?ha ?_ | refine' xBc (by decide) rfl rfl rfl (fun w => ?hq) ?ha ?_); (case hq => go_simp; try rfl)) | (refine' xAg (by decide) rfl rfl rfl ?ha ?_) | (refine' xBk (by decide) rfl rfl rfl rfl ?ha ?_) | (refine' xBm (by decide) rfl ?ha ?_) | (refine' xBj rfl rfl rfl (xBi Try.func65 (by kernel_rfl) (by kernel_rfl) _) (fun w => y1 w) ?ha ?_) | (refine' xBj rfl rfl rfl (xBi Try.func65 (by kernel_rfl) (by kernel_rfl) _) (fun w => y2 w) ?ha ?_) | (refine' xBj rfl rfl rfl (xBi Try.func66 (by kernel_rfl) (by kernel_rfl) _) (fun w => y3 w) ?ha ?_) | (refine' xBj rfl rfl rfl (xBi Try.func66 (by kernel_rfl) (by kernel_rfl) _) (fun w => y4 w) ?ha ?_) | (refine' xBj rfl rfl rfl (xBi Try.func60 (by kernel_rfl) (by kernel_rfl) _) (fun w => o1 w) ?ha ?_)); try (case ha => simp only [kP, kQ, kA, kB]; try rfl))
    refine xBp (hK _ _ ?_)
    clear hK K
    refine xBw (fun Q hQ => ?_)
    try simp only [List.nil_append, List.cons_append]
    repeat ((first | refine' xBf rfl (.inl rfl) rfl ?hk ?ha ?_ | refine' xBf rfl (.inr rfl) rfl ?hk ?ha ?_ | (refine' xAy rfl rfl rfl inferInstance rfl ?hs rfl rfl ?hn ?hk ?ha ?_; (case hs => repeat (first | exact xAw.head | apply xAw.tail)); (case hn => first | rfl | simp)) | (refine' xAt rfl rfl rfl inferInstance rfl rfl ?hs ?hn ?hl ?hk ?ha ?_; (case hs => repeat (first | exact xAw.head | apply xAw.tail)); (case hn => first | exact oD rfl | (show _ < 4; with_reducible assumption) | (simp; try omega)); (case hl => first | with_reducible assumption | (simp only [nl, kA, kB]; first | done | rfl) | rfl)) | (refine' xAx rfl rfl rfl inferInstance rfl rfl ?hvn ?hs ?hn ?hl ?hk ?ha ?_; (case hvn => first | rfl | simp); (case hs => repeat (first | exact xAw.head | apply xAw.tail)); (case hn => first | exact oD rfl | (show _ < 4; with_reducible assumption) | (simp; try omega)); (case hl => first | with_reducible assumption | (simp only [nl, kA, kB]; first | done | rfl) | rfl)) | (refine' xBq rfl (fun w => ?hq) ?hk ?ha ?_; (case hq => go_simp; try rfl))); (case hk => intro p hp; first | exact absurd hp List.not_mem_nil | (obtain rfl := List.mem_singleton.1 hp; repeat (first | exact List.Mem.head _ | apply mT))); (case ha => simp only [kP, kQ, kA, kB]; try rfl))
    refine xBx (fun w hR => hQ _ _ ?_)
    clear hQ Q
    go_wp2_with (first | (refine' xAb hR rfl rfl rfl ?_; clear hR; intro blk w hR) | (refine' xAa hR rfl rfl inferInstance ?_; clear hR; intro blk w hR) | (refine' aAq hR rfl rfl rfl inferInstance ?_) | (refine' aBq hR rfl rfl rfl inferInstance ?_) | (refine' aCq hR rfl rfl rfl inferInstance ?_) | (refine' aDq hR rfl rfl rfl inferInstance rfl ?_; clear hR; intro w hR) | (refine' aEq hR rfl rfl rfl inferInstance rfl rfl ?_; clear hR; intro w hR) | fail)
    go_ret
    exact ⟨rfl, hR.below⟩
end Go.Proofs.Ytgfoeongjhkdmaa
