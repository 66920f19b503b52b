/- The contract of mods.Inv. -/
import Derived.Test.YtaaahfjpnggkbaaGreatDoorPInvWalk
import Derived.Test.YtaaahfjpnggkbaaGreatDoorPEE
import Derived.Test.YtaaahfjpnggkbaaGreatDoorPF
set_option linter.unusedVariables false
set_option linter.unusedSimpArgs false
namespace Go.Proofs.YtaaahfjpnggkbaaGreatDoor
open Go.RowKit
attribute [local irreducible] Calls
theorem inv_exists {a m : Nat} (h1 : 1 < m) (ha : a < m) (hg : Nat.gcd a m = 1) : ∃ y, y < m ∧ y * a % m = 1 := by
  have a0 : 1 ≤ a := by
    rcases Nat.eq_zero_or_pos a with h | h
    · rw [h, Nat.gcd_zero_left] at hg; omega
    · exact h
  obtain ⟨N, R, S, X, Y, k1, k2, k3, k4, k5, k6, k7, k8⟩ := euclid_inv a m h1 a m 0 1 (by rw [Nat.gcd_comm, hg]) a0 ha (Nat.le_refl _) (by omega) h1 (by rw [Nat.zero_mul, Nat.zero_mod, Nat.mod_self]) (by rw [Nat.one_mul])
  exact ⟨Y 0, (k7 0 (Nat.zero_le _)).2.2.2, k6⟩
theorem invM_spec {a m : Nat} (h1 : 1 < m) (ha : a < m) (hg : Nat.gcd a m = 1) : invM a m < m ∧ invM a m * a % m = 1 := by
  obtain ⟨y, h2, h3⟩ := inv_exists h1 ha hg
  rw [invM_yes hg, invN_is h2 h3]
  exact ⟨h2, h3⟩
theorem invM_pos {a m : Nat} (h1 : 1 < m) (ha : a < m) (hg : Nat.gcd a m = 1) : invM a m ≠ 0 := fun h => by
  have := (invM_spec h1 ha hg).2
  rw [h, Nat.zero_mul, Nat.zero_mod] at this
  omega
def invE (a m : Nat) : Int := if okE a m then (if Nat.gcd a m = 1 then 0 else 7) else 1
set_option maxRecDepth 100000 in
set_option maxHeartbeats 2000000 in
theorem deed_inv (a m : Nat) (ha : a < B) (hm : m < B) (w : World) :
    Calls Tryz.prog 205 #[.agg #[.func (.func 208) #[] #[]], num a, num a, num m] w fun e w' =>
    e = .returned (.tuple #[num (if okE a m then invM a m else 0), .int .i64 (if okE a m then 0 else 1)]) ∧ Below w.heap.size w w' := by
  obtain ⟨n1, hn1⟩ : ∃ n, n = 1 := ⟨_, rfl⟩
  have o1 : ∀ w, Calls Tryz.prog 171 #[.int .u64 1] w fun e w' => e = .returned (num n1) ∧ Below w.heap.size w w' := fun w => by
    rw [hn1]; exact of_any 1 (by decide) w
  have L1 : n1 < B := lt_B (by omega)
  have c1 := cmp_lit hm L1 rfl
  have c2 := cmp_lit ha hm rfl
  have k1 := cmpN_le m n1
  have k2 := cmpN_ge a m
  by_cases ok : okE a m
  · rw [if_pos ok, if_pos ok]
    have hd := fun w => invm_any a a m ok.2 hm ok.1 w
    generalize invM a m = r at *
    have j1 : ¬ cmpN m n1 ≤ 0 := fun h => by have := k1.mp h; have := ok.1; omega
    have j2 : ¬ 0 ≤ cmpN a m := fun h => by have := k2.mp h; have := ok.2; omega
    generalize cmpN m n1 = x1 at *
    generalize cmpN a m = x2 at *
    have q1 : decide (x1 ≤ 0) = false := decide_eq_false j1
    have q2 : decide (0 ≤ x2) = false := decide_eq_false j2
    clear k1 k2 ok L1 hn1 j1 j2
    have hR := Rep.init w
    go_enter Tryz.func205, Tryz.ntmps205
    go_wp2_with (first | (refine' xAb hR rfl rfl rfl ?_; clear hR; intro blk w hR) | (refine' xAa hR rfl rfl inferInstance ?_; clear hR; intro blk w hR) | (refine' aAq hR rfl rfl rfl ?_) | (refine' aBq hR rfl rfl rfl ?_) | (refine' aCq hR rfl rfl rfl ?_) | (refine' aDq hR rfl rfl rfl rfl ?_; clear hR; intro w hR) | (refine' aEq hR rfl rfl rfl rfl rfl ?_; clear hR; intro w hR) | fail)
    refine xAi hR [0, 0, 0, 0, 0, 0, 0, 0, 0, 0, 0, 0, 0, 0, 0, 0] [] xBt (by kernel_rfl) rfl rfl (fun K hK => ?_)
    clear hR
    repeat ((first | (refine xBa ?_) | (refine' xAm (by decide) rfl (.inl rfl) rfl ?ha ?_) | (refine' xAm (by decide) rfl (.inr rfl) rfl ?ha ?_) | (refine' aFq rfl rfl rfl ?ha ?_) | (refine' aGq rfl rfl rfl ?ha ?_) | (refine' aHq rfl rfl rfl ?ha ?_) | (refine' aIq rfl rfl rfl ?ha ?_) | (refine' aJq rfl rfl rfl ?ha ?_) | ((first | refine' xAf (by decide) rfl rfl rfl rfl (fun w => ?hq) ?ha ?_ | refine' xAv (by decide) rfl rfl rfl rfl (fun w => ?hq) ?ha ?_ | refine' xAj (by decide) rfl rfl rfl (fun w => ?hq) ?ha ?_ | refine' xAe (by decide) rfl rfl rfl (fun w => ?hq) ?ha ?_ | refine' xAk (by decide) rfl rfl rfl (fun w => ?hq) ?ha ?_ | refine' xAu (by decide) rfl rfl rfl rfl (fun w => ?hq) ?ha ?_ | refine' xAt (by decide) rfl rfl rfl rfl rfl rfl (fun w => ?hq) ?ha ?_ | refine' xAs (by decide) rfl rfl (fun w => ?hq) ?ha ?_ | refine' xAl (by decide) rfl rfl rfl (fun w => ?hq) ?ha ?_ | refine' xAw (by decide) rfl rfl rfl (fun w => ?hq) ?ha ?_); (case hq => go_simp; try rfl)) | (refine' xAh (by decide) rfl rfl rfl ?ha ?_) | (refine' xBb (by decide) rfl rfl rfl rfl ?ha ?_) | (refine' xAz (by decide) rfl ?ha ?_) | (refine' xBd rfl rfl rfl (xBc Tryz.func171 (by kernel_rfl) (by kernel_rfl) _) (fun w => o1 w) ?ha ?_) | (refine' xBd rfl rfl rfl (xBc Tryz.func183 (by kernel_rfl) (by kernel_rfl) _) (fun w => c1 w) ?ha ?_) | (refine' xBd rfl rfl rfl (xBc Tryz.func183 (by kernel_rfl) (by kernel_rfl) _) (fun w => c2 w) ?ha ?_)); try (case ha => simp only [kP, kQ, kA, kB]; try rfl))
    refine xBg (hK _ _ ?_)
    clear hK K
    refine xBj (fun Q hQ => ?_)
    try simp only [List.nil_append, List.cons_append]
    repeat ((first | refine' xAq rfl (.inl rfl) rfl ?hk ?ha ?_ | refine' xAq rfl (.inr rfl) rfl ?hk ?ha ?_ | (refine' aKq rfl rfl rfl rfl rfl rfl ?hk ?ha ?_) | (refine' aLq rfl rfl rfl rfl rfl ?hk ?ha ?_) | (refine' aMq rfl rfl rfl rfl rfl ?hk ?ha ?_) | (refine' xBe rfl (fun w => ?hq) ?hk ?ha ?_; (case hq => go_simp; try rfl))); (case hk => intro p hp; first | exact absurd hp List.not_mem_nil | (obtain rfl := List.mem_singleton.1 hp; repeat (first | exact List.Mem.head _ | apply mT))); (case ha => simp only [kP, kQ, kA, kB]; try rfl))
    refine xBi (fun w hR => hQ _ _ ?_)
    clear hQ Q
    go_wp2_with (first | (refine' xAb hR rfl rfl rfl ?_; clear hR; intro blk w hR) | (refine' xAa hR rfl rfl inferInstance ?_; clear hR; intro blk w hR) | (refine' aAq hR rfl rfl rfl ?_) | (refine' aBq hR rfl rfl rfl ?_) | (refine' aCq hR rfl rfl rfl ?_) | (refine' aDq hR rfl rfl rfl rfl ?_; clear hR; intro w hR) | (refine' aEq hR rfl rfl rfl rfl rfl ?_; clear hR; intro w hR) | (go_at_call 208; refine (hd _).mono ?_; rintro e w ⟨rfl, hb⟩; replace hR := hR.call hb; clear hb))
    (refine' bodyPost_ret (xAy Tryz.results205 rfl (hR.loadAll (P := Tryz.prog) (ty := 24) ?hm ?hn)) rfl ⟨?_, hR.below⟩; (case hm => first | with_reducible assumption | repeat (first | exact .head _ | apply mT)); (case hn => first | rfl | simp))
    rfl
  · rw [if_neg ok, if_neg ok]
    have hc : decide (cmpN m n1 ≤ 0) = true ∨ (decide (cmpN m n1 ≤ 0) = false ∧ decide (0 ≤ cmpN a m) = true) := by
      simp only [decide_eq_true_iff, decide_eq_false_iff_not]
      rw [k1, k2]
      unfold okE at ok
      omega
    generalize cmpN m n1 = x1 at *
    generalize cmpN a m = x2 at *
    clear k1 k2 ok L1 hn1
    have hR := Rep.init w
    rcases hc with j1 | ⟨j1, j2⟩
    all_goals
      go_enter Tryz.func205, Tryz.ntmps205
      go_wp2_with (first | (refine' xAb hR rfl rfl rfl ?_; clear hR; intro blk w hR) | (refine' xAa hR rfl rfl inferInstance ?_; clear hR; intro blk w hR) | (refine' aAq hR rfl rfl rfl ?_) | (refine' aBq hR rfl rfl rfl ?_) | (refine' aCq hR rfl rfl rfl ?_) | (refine' aDq hR rfl rfl rfl rfl ?_; clear hR; intro w hR) | (refine' aEq hR rfl rfl rfl rfl rfl ?_; clear hR; intro w hR) | fail)
      refine xAi hR [0, 0, 0, 0, 0, 0, 0, 0, 0, 0, 0, 0, 0, 0, 0, 0] [] xBt (by kernel_rfl) rfl rfl (fun K hK => ?_)
      clear hR
      repeat ((first | (refine xBa ?_) | (refine' xAm (by decide) rfl (.inl rfl) rfl ?ha ?_) | (refine' xAm (by decide) rfl (.inr rfl) rfl ?ha ?_) | (refine' aFq rfl rfl rfl ?ha ?_) | (refine' aGq rfl rfl rfl ?ha ?_) | (refine' aHq rfl rfl rfl ?ha ?_) | (refine' aIq rfl rfl rfl ?ha ?_) | (refine' aJq rfl rfl rfl ?ha ?_) | ((first | refine' xAf (by decide) rfl rfl rfl rfl (fun w => ?hq) ?ha ?_ | refine' xAv (by decide) rfl rfl rfl rfl (fun w => ?hq) ?ha ?_ | refine' xAj (by decide) rfl rfl rfl (fun w => ?hq) ?ha ?_ | refine' xAe (by decide) rfl rfl rfl (fun w => ?hq) ?ha ?_ | refine' xAk (by decide) rfl rfl rfl (fun w => ?hq) ?ha ?_ | refine' xAu (by decide) rfl rfl rfl rfl (fun w => ?hq) ?ha ?_ | refine' xAt (by decide) rfl rfl rfl rfl rfl rfl (fun w => ?hq) ?ha ?_ | refine' xAs (by decide) rfl rfl (fun w => ?hq) ?ha ?_ | refine' xAl (by decide) rfl rfl rfl (fun w => ?hq) ?ha ?_ | refine' xAw (by decide) rfl rfl rfl (fun w => ?hq) ?ha ?_); (case hq => go_simp; try rfl)) | (refine' xAh (by decide) rfl rfl rfl ?ha ?_) | (refine' xBb (by decide) rfl rfl rfl rfl ?ha ?_) | (refine' xAz (by decide) rfl ?ha ?_) | (refine' xBd rfl rfl rfl (xBc Tryz.func171 (by kernel_rfl) (by kernel_rfl) _) (fun w => o1 w) ?ha ?_) | (refine' xBd rfl rfl rfl (xBc Tryz.func183 (by kernel_rfl) (by kernel_rfl) _) (fun w => c1 w) ?ha ?_) | (refine' xBd rfl rfl rfl (xBc Tryz.func183 (by kernel_rfl) (by kernel_rfl) _) (fun w => c2 w) ?ha ?_)); try (case ha => simp only [kP, kQ, kA, kB]; try rfl))
      refine xBg (hK _ _ ?_)
      clear hK K
      refine xBj (fun Q hQ => ?_)
      try simp only [List.nil_append, List.cons_append]
      repeat ((first | refine' xAq rfl (.inl rfl) rfl ?hk ?ha ?_ | refine' xAq rfl (.inr rfl) rfl ?hk ?ha ?_ | (refine' aKq rfl rfl rfl rfl rfl rfl ?hk ?ha ?_) | (refine' aLq rfl rfl rfl rfl rfl ?hk ?ha ?_) | (refine' aMq rfl rfl rfl rfl rfl ?hk ?ha ?_) | (refine' xBe rfl (fun w => ?hq) ?hk ?ha ?_; (case hq => go_simp; try rfl))); (case hk => intro p hp; first | exact absurd hp List.not_mem_nil | (obtain rfl := List.mem_singleton.1 hp; repeat (first | exact List.Mem.head _ | apply mT))); (case ha => simp only [kP, kQ, kA, kB]; try rfl))
      refine xBi (fun w hR => hQ _ _ ?_)
      clear hQ Q
      go_wp2_with (first | (refine' xAb hR rfl rfl rfl ?_; clear hR; intro blk w hR) | (refine' xAa hR rfl rfl inferInstance ?_; clear hR; intro blk w hR) | (refine' aAq hR rfl rfl rfl ?_) | (refine' aBq hR rfl rfl rfl ?_) | (refine' aCq hR rfl rfl rfl ?_) | (refine' aDq hR rfl rfl rfl rfl ?_; clear hR; intro w hR) | (refine' aEq hR rfl rfl rfl rfl rfl ?_; clear hR; intro w hR) | fail)
      (refine' bodyPost_ret (xAy Tryz.results205 rfl (hR.loadAll (P := Tryz.prog) (ty := 24) ?hm ?hn)) rfl ⟨?_, hR.below⟩; (case hm => first | with_reducible assumption | repeat (first | exact .head _ | apply mT)); (case hn => first | rfl | simp))
      rw [xBs]
      rfl
set_option maxRecDepth 100000 in
set_option maxHeartbeats 1000000 in
theorem mods_inv (a m : Nat) (ha : a < B) (hm : m < B) (w : World) : Calls Tryz.prog 178 #[num a, num m] w fun e w' =>
    e = .returned (.tuple #[num (if okE a m then invM a m else 0), .int .i64 (invE a m)]) ∧ Below w.heap.size w w' := by
  have hd := fun w => deed_inv a m ha hm w
  obtain ⟨n0, hn0⟩ : ∃ n, n = 0 := ⟨_, rfl⟩
  have o0 : ∀ w, Calls Tryz.prog 171 #[.int .u64 0] w fun e w' => e = .returned (num n0) ∧ Below w.heap.size w w' := fun w => by
    rw [hn0]; exact of_any 0 (by decide) w
  have L0 : n0 < B := lt_B (by omega)
  unfold invE
  by_cases ok : okE a m
  · rw [if_pos ok, if_pos ok] at hd
    rw [if_pos ok, if_pos ok]
    by_cases hg : Nat.gcd a m = 1
    · rw [if_pos hg]
      have hs := invM_spec ok.1 ok.2 hg
      have hp := invM_pos ok.1 ok.2 hg
      have e0 : eqN (invM a m) n0 = false := eqN_no (by omega) L0 (by omega)
      generalize invM a m = r at *
      clear hn0 L0 ok hg hs hp
      have hR := Rep.init w
      go_enter Tryz.func178, Tryz.ntmps178
      go_wp2_with (first | (refine' xAb hR rfl rfl rfl ?_; clear hR; intro blk w hR) | (refine' xAa hR rfl rfl inferInstance ?_; clear hR; intro blk w hR) | (refine' aAq hR rfl rfl rfl ?_) | (refine' aBq hR rfl rfl rfl ?_) | (refine' aCq hR rfl rfl rfl ?_) | (refine' aDq hR rfl rfl rfl rfl ?_; clear hR; intro w hR) | (refine' aEq hR rfl rfl rfl rfl rfl ?_; clear hR; intro w hR) | (go_at_call 205; refine (hd _).mono ?_; rintro e w ⟨rfl, hb⟩; replace hR := hR.call hb; clear hb))
      refine xAi hR [0, 0, 0, 0, 0, 0, 0] [] xBt (by kernel_rfl) rfl rfl (fun K hK => ?_)
      clear hR
      repeat ((first | (refine xBa ?_) | (refine' xAm (by decide) rfl (.inl rfl) rfl ?ha ?_) | (refine' xAm (by decide) rfl (.inr rfl) rfl ?ha ?_) | (refine' aFq rfl rfl rfl ?ha ?_) | (refine' aGq rfl rfl rfl ?ha ?_) | (refine' aHq rfl rfl rfl ?ha ?_) | (refine' aIq rfl rfl rfl ?ha ?_) | (refine' aJq rfl rfl rfl ?ha ?_) | ((first | refine' xAf (by decide) rfl rfl rfl rfl (fun w => ?hq) ?ha ?_ | refine' xAv (by decide) rfl rfl rfl rfl (fun w => ?hq) ?ha ?_ | refine' xAj (by decide) rfl rfl rfl (fun w => ?hq) ?ha ?_ | refine' xAe (by decide) rfl rfl rfl (fun w => ?hq) ?ha ?_ | refine' xAk (by decide) rfl rfl rfl (fun w => ?hq) ?ha ?_ | refine' xAu (by decide) rfl rfl rfl rfl (fun w => ?hq) ?ha ?_ | refine' xAt (by decide) rfl rfl rfl rfl rfl rfl (fun w => ?hq) ?ha ?_ | refine' xAs (by decide) rfl rfl (fun w => ?hq) ?ha ?_ | refine' xAl (by decide) rfl rfl rfl (fun w => ?hq) ?ha ?_ | refine' xAw (by decide) rfl rfl rfl (fun w => ?hq) ?ha ?_); (case hq => go_simp; try rfl)) | (refine' xAh (by decide) rfl rfl rfl ?ha ?_) | (refine' xBb (by decide) rfl rfl rfl rfl ?ha ?_) | (refine' xAz (by decide) rfl ?ha ?_) | (refine' xBd rfl rfl rfl (xBc Tryz.func171 (by kernel_rfl) (by kernel_rfl) _) (fun w => o0 w) ?ha ?_)); try (case ha => simp only [kP, kQ, kA, kB]; try rfl))
      refine xBg (hK _ _ ?_)
      clear hK K
      refine xBj (fun Q hQ => ?_)
      try simp only [List.nil_append, List.cons_append]
      repeat ((first | refine' xAq rfl (.inl rfl) rfl ?hk ?ha ?_ | refine' xAq rfl (.inr rfl) rfl ?hk ?ha ?_ | (refine' aKq rfl rfl rfl rfl rfl rfl ?hk ?ha ?_) | (refine' aLq rfl rfl rfl rfl rfl ?hk ?ha ?_) | (refine' aMq rfl rfl rfl rfl rfl ?hk ?ha ?_) | (refine' xBe rfl (fun w => ?hq) ?hk ?ha ?_; (case hq => go_simp; try rfl))); (case hk => intro p hp; first | exact absurd hp List.not_mem_nil | (obtain rfl := List.mem_singleton.1 hp; repeat (first | exact List.Mem.head _ | apply mT))); (case ha => simp only [kP, kQ, kA, kB]; try rfl))
      refine xBi (fun w hR => hQ _ _ ?_)
      clear hQ Q
      go_wp2_with (first | (refine' xAb hR rfl rfl rfl ?_; clear hR; intro blk w hR) | (refine' xAa hR rfl rfl inferInstance ?_; clear hR; intro blk w hR) | (refine' aAq hR rfl rfl rfl ?_) | (refine' aBq hR rfl rfl rfl ?_) | (refine' aCq hR rfl rfl rfl ?_) | (refine' aDq hR rfl rfl rfl rfl ?_; clear hR; intro w hR) | (refine' aEq hR rfl rfl rfl rfl rfl ?_; clear hR; intro w hR) | fail)
      (refine' bodyPost_ret (xAy Tryz.results178 rfl (hR.loadAll (P := Tryz.prog) (ty := 24) ?hm ?hn)) rfl ⟨?_, hR.below⟩; (case hm => first | with_reducible assumption | repeat (first | exact .head _ | apply mT)); (case hn => first | rfl | simp))
      rfl
    · rw [if_neg hg]
      have e0 : eqN (invM a m) n0 = true := eqN_yes (by rw [invM_no hg, hn0])
      generalize invM a m = r at *
      clear hn0 L0 ok hg
      have hR := Rep.init w
      go_enter Tryz.func178, Tryz.ntmps178
      go_wp2_with (first | (refine' xAb hR rfl rfl rfl ?_; clear hR; intro blk w hR) | (refine' xAa hR rfl rfl inferInstance ?_; clear hR; intro blk w hR) | (refine' aAq hR rfl rfl rfl ?_) | (refine' aBq hR rfl rfl rfl ?_) | (refine' aCq hR rfl rfl rfl ?_) | (refine' aDq hR rfl rfl rfl rfl ?_; clear hR; intro w hR) | (refine' aEq hR rfl rfl rfl rfl rfl ?_; clear hR; intro w hR) | (go_at_call 205; refine (hd _).mono ?_; rintro e w ⟨rfl, hb⟩; replace hR := hR.call hb; clear hb))
      refine xAi hR [0, 0, 0, 0, 0, 0, 0] [] xBt (by kernel_rfl) rfl rfl (fun K hK => ?_)
      clear hR
      repeat ((first | (refine xBa ?_) | (refine' xAm (by decide) rfl (.inl rfl) rfl ?ha ?_) | (refine' xAm (by decide) rfl (.inr rfl) rfl ?ha ?_) | (refine' aFq rfl rfl rfl ?ha ?_) | (refine' aGq rfl rfl rfl ?ha ?_) | (refine' aHq rfl rfl rfl ?ha ?_) | (refine' aIq rfl rfl rfl ?ha ?_) | (refine' aJq rfl rfl rfl ?ha ?_) | ((first | refine' xAf (by decide) rfl rfl rfl rfl (fun w => ?hq) ?ha ?_ | refine' xAv (by decide) rfl rfl rfl rfl (fun w => ?hq) ?ha ?_ | refine' xAj (by decide) rfl rfl rfl (fun w => ?hq) ?ha ?_ | refine' xAe (by decide) rfl rfl rfl (fun w => ?hq) ?ha ?_ | refine' xAk (by decide) rfl rfl rfl (fun w => ?hq) ?ha ?_ | refine' xAu (by decide) rfl rfl rfl rfl (fun w => ?hq) ?ha ?_ | refine' xAt (by decide) rfl rfl rfl rfl rfl rfl (fun w => ?hq) ?ha ?_ | refine' xAs (by decide) rfl rfl (fun w => ?hq) ?ha ?_ | refine' xAl (by decide) rfl rfl rfl (fun w => ?hq) ?ha ?_ | refine' xAw (by decide) rfl rfl rfl (fun w => ?hq) ?ha ?_); (case hq => go_simp; try rfl)) | (refine' xAh (by decide) rfl rfl rfl ?ha ?_) | (refine' xBb (by decide) rfl rfl rfl rfl ?ha ?_) | (refine' xAz (by decide) rfl ?ha ?_) | (refine' xBd rfl rfl rfl (xBc Tryz.func171 (by kernel_rfl) (by kernel_rfl) _) (fun w => o0 w) ?ha ?_)); try (case ha => simp only [kP, kQ, kA, kB]; try rfl))
      refine xBg (hK _ _ ?_)
      clear hK K
      refine xBj (fun Q hQ => ?_)
      try simp only [List.nil_append, List.cons_append]
      repeat ((first | refine' xAq rfl (.inl rfl) rfl ?hk ?ha ?_ | refine' xAq rfl (.inr rfl) rfl ?hk ?ha ?_ | (refine' aKq rfl rfl rfl rfl rfl rfl ?hk ?ha ?_) | (refine' aLq rfl rfl rfl rfl rfl ?hk ?ha ?_) | (refine' aMq rfl rfl rfl rfl rfl ?hk ?ha ?_) | (refine' xBe rfl (fun w => ?hq) ?hk ?ha ?_; (case hq => go_simp; try rfl))); (case hk => intro p hp; first | exact absurd hp List.not_mem_nil | (obtain rfl := List.mem_singleton.1 hp; repeat (first | exact List.Mem.head _ | apply mT))); (case ha => simp only [kP, kQ, kA, kB]; try rfl))
      refine xBi (fun w hR => hQ _ _ ?_)
      clear hQ Q
      go_wp2_with (first | (refine' xAb hR rfl rfl rfl ?_; clear hR; intro blk w hR) | (refine' xAa hR rfl rfl inferInstance ?_; clear hR; intro blk w hR) | (refine' aAq hR rfl rfl rfl ?_) | (refine' aBq hR rfl rfl rfl ?_) | (refine' aCq hR rfl rfl rfl ?_) | (refine' aDq hR rfl rfl rfl rfl ?_; clear hR; intro w hR) | (refine' aEq hR rfl rfl rfl rfl rfl ?_; clear hR; intro w hR) | fail)
      (refine' bodyPost_ret (xAy Tryz.results178 rfl (hR.loadAll (P := Tryz.prog) (ty := 24) ?hm ?hn)) rfl ⟨?_, hR.below⟩; (case hm => first | with_reducible assumption | repeat (first | exact .head _ | apply mT)); (case hn => first | rfl | simp))
      rfl
  · rw [if_neg ok, if_neg ok] at hd
    rw [if_neg ok, if_neg ok]
    obtain ⟨z, hz⟩ : ∃ z, z = 0 := ⟨_, rfl⟩
    rw [← hz] at hd
    have : num 0 = num z := by rw [hz]
    rw [this]
    clear this hz hn0 L0 ok
    have hR := Rep.init w
    go_enter Tryz.func178, Tryz.ntmps178
    go_wp2_with (first | (refine' xAb hR rfl rfl rfl ?_; clear hR; intro blk w hR) | (refine' xAa hR rfl rfl inferInstance ?_; clear hR; intro blk w hR) | (refine' aAq hR rfl rfl rfl ?_) | (refine' aBq hR rfl rfl rfl ?_) | (refine' aCq hR rfl rfl rfl ?_) | (refine' aDq hR rfl rfl rfl rfl ?_; clear hR; intro w hR) | (refine' aEq hR rfl rfl rfl rfl rfl ?_; clear hR; intro w hR) | (go_at_call 205; refine (hd _).mono ?_; rintro e w ⟨rfl, hb⟩; replace hR := hR.call hb; clear hb))
    refine xAi hR [0, 0, 0, 0, 0, 0, 0] [] xBt (by kernel_rfl) rfl rfl (fun K hK => ?_)
    clear hR
    repeat ((first | (refine xBa ?_) | (refine' xAm (by decide) rfl (.inl rfl) rfl ?ha ?_) | (refine' xAm (by decide) rfl (.inr rfl) rfl ?ha ?_) | (refine' aFq rfl rfl rfl ?ha ?_) | (refine' aGq rfl rfl rfl ?ha ?_) | (refine' aHq rfl rfl rfl ?ha ?_) | (refine' aIq rfl rfl rfl ?ha ?_) | (refine' aJq rfl rfl rfl ?ha ?_) | ((first | refine' xAf (by decide) rfl rfl rfl rfl (fun w => ?hq) ?ha ?_ | refine' xAv (by decide) rfl rfl rfl rfl (fun w => ?hq) ?ha ?_ | refine' xAj (by decide) rfl rfl rfl (fun w => ?hq) ?ha ?_ | refine' xAe (by decide) rfl rfl rfl (fun w => ?hq) ?ha ?_ | refine' xAk (by decide) rfl rfl rfl (fun w => ?hq) ?ha ?_ | refine' xAu (by decide) rfl rfl rfl rfl (fun w => ?hq) ?ha ?_ | refine' xAt (by decide) rfl rfl rfl rfl rfl rfl (fun w => ?hq) ?ha ?_ | refine' xAs (by decide) rfl rfl (fun w => ?hq) ?ha ?_ | refine' xAl (by decide) rfl rfl rfl (fun w => ?hq) ?ha ?_ | refine' xAw (by decide) rfl rfl rfl (fun w => ?hq) ?ha ?_); (case hq => go_simp; try rfl)) | (refine' xAh (by decide) rfl rfl rfl ?ha ?_) | (refine' xBb (by decide) rfl rfl rfl rfl ?ha ?_) | (refine' xAz (by decide) rfl ?ha ?_) | (refine' xBd rfl rfl rfl (xBc Tryz.func171 (by kernel_rfl) (by kernel_rfl) _) (fun w => o0 w) ?ha ?_)); try (case ha => simp only [kP, kQ, kA, kB]; try rfl))
    refine xBg (hK _ _ ?_)
    clear hK K
    refine xBj (fun Q hQ => ?_)
    try simp only [List.nil_append, List.cons_append]
    repeat ((first | refine' xAq rfl (.inl rfl) rfl ?hk ?ha ?_ | refine' xAq rfl (.inr rfl) rfl ?hk ?ha ?_ | (refine' aKq rfl rfl rfl rfl rfl rfl ?hk ?ha ?_) | (refine' aLq rfl rfl rfl rfl rfl ?hk ?ha ?_) | (refine' aMq rfl rfl rfl rfl rfl ?hk ?ha ?_) | (refine' xBe rfl (fun w => ?hq) ?hk ?ha ?_; (case hq => go_simp; try rfl))); (case hk => intro p hp; first | exact absurd hp List.not_mem_nil | (obtain rfl := List.mem_singleton.1 hp; repeat (first | exact List.Mem.head _ | apply mT))); (case ha => simp only [kP, kQ, kA, kB]; try rfl))
    refine xBi (fun w hR => hQ _ _ ?_)
    clear hQ Q
    go_wp2_with (first | (refine' xAb hR rfl rfl rfl ?_; clear hR; intro blk w hR) | (refine' xAa hR rfl rfl inferInstance ?_; clear hR; intro blk w hR) | (refine' aAq hR rfl rfl rfl ?_) | (refine' aBq hR rfl rfl rfl ?_) | (refine' aCq hR rfl rfl rfl ?_) | (refine' aDq hR rfl rfl rfl rfl ?_; clear hR; intro w hR) | (refine' aEq hR rfl rfl rfl rfl rfl ?_; clear hR; intro w hR) | fail)
    (refine' bodyPost_ret (xAy Tryz.results178 rfl (hR.loadAll (P := Tryz.prog) (ty := 24) ?hm ?hn)) rfl ⟨?_, hR.below⟩; (case hm => first | with_reducible assumption | repeat (first | exact .head _ | apply mT)); (case hn => first | rfl | simp))
    rfl
end Go.Proofs.YtaaahfjpnggkbaaGreatDoor
namespace Go.Proofs.YtaaahfjpnggkbaaGreatDoor
open Go.RowKit
attribute [local irreducible] Calls
theorem madd_lit {a b m r : Nat} {e : Int} (ha : a < B) (hb : b < B) (hm : m < B) (hr : (if okM a b m then (a + b) % m else 0) = r) (he : (if okM a b m then (0 : Int) else 1) = e) (w : World) : Calls Tryz.prog 173 #[num a, num b, num m] w fun e' w' =>
    e' = .returned (.tuple #[num r, .int .i64 e]) ∧ Below w.heap.size w w' := by
  have := mods_add a b m ha hb hm w
  rwa [hr, he] at this
theorem msub_lit {a b m r : Nat} {e : Int} (ha : a < B) (hb : b < B) (hm : m < B) (hr : (if okM a b m then subN a b m else 0) = r) (he : (if okM a b m then (0 : Int) else 1) = e) (w : World) : Calls Tryz.prog 175 #[num a, num b, num m] w fun e' w' =>
    e' = .returned (.tuple #[num r, .int .i64 e]) ∧ Below w.heap.size w w' := by
  have := mods_sub a b m ha hb hm w
  rwa [hr, he] at this
theorem mmul_lit {a b m r : Nat} {e : Int} (ha : a < B) (hb : b < B) (hm : m < B) (hr : (if okM a b m then mulN a b m else 0) = r) (he : (if okM a b m then (0 : Int) else 1) = e) (w : World) : Calls Tryz.prog 177 #[num a, num b, num m] w fun e' w' =>
    e' = .returned (.tuple #[num r, .int .i64 e]) ∧ Below w.heap.size w w' := by
  have := mods_mul a b m ha hb hm w
  rwa [hr, he] at this
theorem minv_lit {a m r : Nat} {e : Int} (ha : a < B) (hm : m < B) (hr : (if okE a m then invM a m else 0) = r) (he : invE a m = e) (w : World) : Calls Tryz.prog 178 #[num a, num m] w fun e' w' =>
    e' = .returned (.tuple #[num r, .int .i64 e]) ∧ Below w.heap.size w w' := by
  have := mods_inv a m ha hm w
  rwa [hr, he] at this
end Go.Proofs.YtaaahfjpnggkbaaGreatDoor
namespace Go.Proofs.YtaaahfjpnggkbaaGreatDoor
open Go.RowKit
attribute [local irreducible] Calls
end Go.Proofs.YtaaahfjpnggkbaaGreatDoor
namespace Go.Proofs.YtaaahfjpnggkbaaGreatDoor
open Go.RowKit
section
variable {P : Program} {ops : Array Oper} {ts : List Nat} {r acc : List Oper} {o : Oper} {a : Act} {K : List Oper → Act → Prop} {I : (World → Prop) → Prop} {C : World → Prop}
theorem hd_unOp {m : Nat} (hm : m ≠ 2) (hw : Region.wanted o (yielded ops a.tmps) = true) {op : UnOp} {t : TypeId} {x : Operand} (hop : o.op = .unOp op t x) {vx v : Value} (hx' : ev a x = some vx) (hrun : ∀ w, (Op.unary op vx).run P w = .ok v w)
    {a' : Act} (ha : a.put o.dst v = a') (h : xBv P ops I C K ts r acc a') : xBv P ops I C K (m :: ts) (o :: r) acc a :=
  xCp hm hw (fun w => by have hx := xBp hx'; unfold execOp; simp only [hop, hx]; exact xCz _ (hrun w)) ha h
end
theorem mul_lt' {m : Nat} (h : 1 < m) (a b : Nat) : mulN a b m < m := by rw [mulN_def]; exact Nat.mod_lt _ (by omega)
end Go.Proofs.YtaaahfjpnggkbaaGreatDoor
namespace Go.Proofs.YtaaahfjpnggkbaaGreatDoor
open Go.RowKit
instance : CellT Tryz.prog 182 := .mk' (by kernel_rfl) (by kernel_rfl)
end Go.Proofs.YtaaahfjpnggkbaaGreatDoor
