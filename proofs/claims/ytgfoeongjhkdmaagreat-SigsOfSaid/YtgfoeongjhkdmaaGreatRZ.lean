/- The contract of balefireref03.Wide. -/
import Derived.Test.YtgfoeongjhkdmaaGreatRY
import Derived.Test.YtgfoeongjhkdmaaGreatRJ
import Derived.Test.YtgfoeongjhkdmaaGreatRX
import Derived.Test.YtgfoeongjhkdmaaGreatRK
set_option linter.unusedVariables false
set_option linter.unusedSimpArgs false
namespace Go.Proofs.YtgfoeongjhkdmaaGreat
open Go.RowKit
attribute [local irreducible] Calls
noncomputable def rV : Nat → Nat → Nat → Nat := opq fun m T j => T / 18446744073709551616 ^ j % m
theorem rV_def (m T j : Nat) : rV m T j = T / 18446744073709551616 ^ j % m := by unfold rV; rw [xCe]
theorem rV_lt {m : Nat} (h : m ≠ 0) (T j : Nat) : rV m T j < m := by rw [rV_def]; exact Nat.mod_lt _ (by omega)
theorem rV_round (m T j : Nat) : (rV m T (j + 1) * 18446744073709551616 + w64 T j) % m = rV m T j := by
  rw [rV_def, rV_def]
  unfold w64
  have e : T / 18446744073709551616 ^ j = T / 18446744073709551616 ^ (j + 1) * 18446744073709551616 + T / 18446744073709551616 ^ j % 18446744073709551616 := by
    rw [Nat.pow_succ, ← Nat.div_div_eq_div_mul]; omega
  conv => rhs; rw [e]
  rw [Nat.add_mod, Nat.mul_mod, Nat.mod_mod, ← Nat.mul_mod, ← Nat.add_mod]
theorem B_4 : B = 18446744073709551616 ^ 4 := by rw [B_eq]
theorem w64_low (low high j : Nat) (h : j < 4) (hl : low < B) : w64 (high * B + low) j = w64 low j := by
  unfold w64
  obtain ⟨k, hk⟩ : ∃ k, 4 = j + (1 + k) := ⟨3 - j, by omega⟩
  rw [B_4, hk, Nat.pow_add, Nat.mul_comm high, Nat.mul_assoc, Nat.mul_add_div (Nat.pow_pos (by decide)), Nat.pow_add, Nat.pow_one, Nat.mul_assoc, Nat.mul_add_mod]
theorem w64_high (low high j : Nat) (hl : low < B) : w64 (high * B + low) (j + 4) = w64 high j := by
  unfold w64
  rw [Nat.pow_add, Nat.mul_comm (_ ^ j), ← Nat.div_div_eq_div_mul, ← B_4, Nat.mul_comm high, Nat.mul_add_div B_pos, Nat.div_eq_of_lt hl, Nat.add_zero]
theorem rV_top {m low high : Nat} (hl : low < B) (hh : high < B) : rV m (high * B + low) 8 = 0 := by
  rw [rV_def, show (18446744073709551616 : Nat) ^ 8 = 18446744073709551616 ^ 4 * 18446744073709551616 ^ 4 by decide, ← B_4, Nat.div_eq_of_lt, Nat.zero_mod]
  have : (high + 1) * B ≤ B * B := Nat.mul_le_mul_right _ hh
  rw [Nat.add_mul, Nat.one_mul] at this
  omega
theorem rV_zero {m low high : Nat} (h0 : m ≠ 0) : rV m (high * B + low) 0 = widN low high m := by
  rw [rV_def, Nat.pow_zero, Nat.div_one, widN_def, if_neg h0]
set_option maxRecDepth 100000 in
set_option maxHeartbeats 4000000 in
theorem refWide_short (low high m : Nat) (hl : low < B) (hh : high < B) (h0 : m ≠ 0) (hs : m < 18446744073709551616) (w : World) : Calls Tryz.prog 73 #[num low, num high, num m] w fun e w' =>
    e = .returned (.tuple #[num (widN low high m), .int .i64 0]) ∧ Below w.heap.size w w' := by
  have hm : m < B := lt_B hs
  have z := xDl hm B_pos h0
  have cw := refWord_any m hm
  rw [decide_eq_true hs] at cw
  have hR := Rep.init w
  have hlen : widN low high m < 18446744073709551616 := by rw [← rV_zero h0]; exact Nat.lt_trans (rV_lt h0 _ _) hs
  go_enter Tryz.func73, Tryz.ntmps73
  go_wp2_with (first | (refine' xAb hR rfl rfl rfl ?_; clear hR; intro blk w hR) | (refine' xAa hR rfl rfl inferInstance ?_; clear hR; intro blk w hR) | (refine' aAq hR rfl rfl rfl inferInstance ?_) | (refine' aBq hR rfl rfl rfl inferInstance ?_) | (refine' aCq hR rfl rfl rfl inferInstance ?_) | (refine' aDq hR rfl rfl rfl inferInstance rfl ?_; clear hR; intro w hR) | (refine' aEq hR rfl rfl rfl inferInstance rfl rfl ?_; clear hR; intro w hR) | (go_at_call 66; refine (cw _).mono ?_; rintro e w ⟨rfl, hb⟩; replace hR := hR.call hb; clear hb))
  clear cw z
  rename_i b3 _ b4 _ b5 _ _ _ _ _ _
  refine' xCa (false :: false :: false :: false :: false :: false :: false :: false :: false :: false :: true :: false :: false :: false :: false :: false :: false :: false :: false :: false :: true :: true :: true :: true :: true :: true :: true :: true :: true :: true :: true :: true :: true :: true :: true :: true :: true :: true :: true :: true :: true :: true :: false :: false :: false :: false :: false :: false :: false :: false :: false :: false :: false :: false :: false :: false :: false :: false :: false :: false :: false :: false :: false :: false :: false :: []) (fun j l => (l.set 8 (.int .u64 ((rV m (high * B + low) j : Nat) : Int))).set 9 (.int .i64 ((j : Int) - 1))) (fun j => [(blk, .cells (nl 0).toArray 24), (b5, .cells (nl m).toArray 24), (b4, .cells (nl high).toArray 24), (b3, .cells (nl low).toArray 24)]) 8 ?h0 ?hR ?hs ?he
  case hR =>
    rw [← nl_zero]
    exact hR
  case h0 =>
    simp only [rV_top hl hh]
    exact xAu rfl rfl rfl
  case hs =>
    clear hR
    intro j tm w hj ht hR K hK
    repeat (first | (obtain ⟨x, tm', e, ht'⟩ := xAf ht; clear ht; subst e; have ht := ht'; clear ht') | (obtain ⟨tm', e, ht'⟩ := xAc ht; clear ht; subst e; have ht := ht'; clear ht'))
    obtain rfl := xAk ht
    clear ht
    have e1 : ((j + 1 : Nat) : Int) - 1 = (j : Int) := by omega
    rw [e1]
    have hr := rV_lt h0 (high * B + low) (j + 1)
    have cd := fun w => div64_any _ _ m hr hs (w64_lt (high * B + low) j) w
    rw [rV_round] at cd
    have em : wd m 0 = (m : Int) := by rw [wd_eq]; unfold w64; omega
    rw [← em] at cd
    generalize rV m (high * B + low) (j + 1) = R at *
    generalize rV m (high * B + low) j = R' at *
    have hv := nl_at low (j % 4) (by omega)
    obtain ⟨y, hy⟩ : ∃ y, j % 4 = y := ⟨_, rfl⟩
    rw [hy] at hv
    have e3 : (j : Int).tmod 4 = (y : Int) := by rw [Int.tmod_eq_emod_of_nonneg (by omega)]; omega
    have e4 : (j : Int) % 4 = (y : Int) := by omega
    have e5 : IntKind.i64.wrap (y : Int) = (y : Int) := by rw [IntKind.wrap_i64]; omega
    have g0 : 0 ≤ (j : Int) := by omega
    have g1 : (j : Int) < 8 := by omega
    have g2 : 0 ≤ (y : Int) := by omega
    have g3 : (y : Int) < 4 := by omega
    have g4 : y < 4 := by omega
    by_cases h4 : j < 4
    · rw [w64_low low high j h4 hl, ← wd_eq] at cd
      have ej : j = y := by omega
      rw [ej] at cd
      have g5 : ¬ 4 ≤ (j : Int) := by omega
      clear e1 em hr hy ej h4 hlen
      generalize (R * 18446744073709551616 + w64 (high * B + low) j) / m = q at *
      go_wp2_with (first | (refine' xAb hR rfl rfl rfl ?_; clear hR; intro blk w hR) | (refine' xAa hR rfl rfl inferInstance ?_; clear hR; intro blk w hR) | (refine' aAq hR rfl rfl rfl inferInstance ?_) | (refine' aBq hR rfl rfl rfl inferInstance ?_) | (refine' aCq hR rfl rfl rfl inferInstance ?_) | (refine' aDq hR rfl rfl rfl inferInstance rfl ?_; clear hR; intro w hR) | (refine' aEq hR rfl rfl rfl inferInstance rfl rfl ?_; clear hR; intro w hR) | (go_at_call 82; refine (cd _).mono ?_; rintro e w ⟨rfl, hb⟩; replace hR := hR.call hb; clear hb))
      exact hK.out _ _ (xAu rfl rfl rfl) hR
    · obtain ⟨x, rfl⟩ : ∃ x, j = x + 4 := ⟨j - 4, by omega⟩
      rw [w64_high low high x hl, ← wd_eq] at cd
      have hv2 := nl_at high x (by omega)
      have g5 : 4 ≤ ((x + 4 : Nat) : Int) := by omega
      have g6 : IntKind.i64.wrap (((x + 4 : Nat) : Int) - 4) = (x : Int) := by rw [IntKind.wrap_i64]; omega
      have g7 : 0 ≤ (x : Int) := by omega
      have g8 : (x : Int) < 4 := by omega
      have g9 : x < 4 := by omega
      clear e1 em hr hy h4 hlen
      generalize (R * 18446744073709551616 + w64 (high * B + low) (x + 4)) / m = q at *
      generalize hP : ((x + 4 : Nat) : Int) = P at *
      clear hP
      go_wp2_with (first | (refine' xAb hR rfl rfl rfl ?_; clear hR; intro blk w hR) | (refine' xAa hR rfl rfl inferInstance ?_; clear hR; intro blk w hR) | (refine' aAq hR rfl rfl rfl inferInstance ?_) | (refine' aBq hR rfl rfl rfl inferInstance ?_) | (refine' aCq hR rfl rfl rfl inferInstance ?_) | (refine' aDq hR rfl rfl rfl inferInstance rfl ?_; clear hR; intro w hR) | (refine' aEq hR rfl rfl rfl inferInstance rfl rfl ?_; clear hR; intro w hR) | (go_at_call 82; refine (cd _).mono ?_; rintro e w ⟨rfl, hb⟩; replace hR := hR.call hb; clear hb))
      exact hK.out _ _ (xAu rfl rfl rfl) hR
  case he =>
    clear hR
    intro tm w ht hR K
    rw [rV_zero h0] at ht
    simp only [Int.natCast_zero, Int.zero_sub] at ht
    repeat (first | (obtain ⟨x, tm', e, ht'⟩ := xAf ht; clear ht; subst e; have ht := ht'; clear ht') | (obtain ⟨tm', e, ht'⟩ := xAc ht; clear ht; subst e; have ht := ht'; clear ht'))
    obtain rfl := xAk ht
    clear ht
    go_wp2_with (first | (refine' xAb hR rfl rfl rfl ?_; clear hR; intro blk w hR) | (refine' xAa hR rfl rfl inferInstance ?_; clear hR; intro blk w hR) | (refine' aAq hR rfl rfl rfl inferInstance ?_) | (refine' aBq hR rfl rfl rfl inferInstance ?_) | (refine' aCq hR rfl rfl rfl inferInstance ?_) | (refine' aDq hR rfl rfl rfl inferInstance rfl ?_; clear hR; intro w hR) | (refine' aEq hR rfl rfl rfl inferInstance rfl rfl ?_; clear hR; intro w hR) | (go_at_call 64; refine (refOf_any _ hlen _).mono ?_; rintro e w ⟨rfl, hb⟩; replace hR := hR.call hb; clear hb))
    (refine' bodyPost_ret (xAz Tryz.results73 rfl (hR.loadAll (P := Tryz.prog) (ty := 24) ?hm ?hn)) rfl ⟨?_, hR.below⟩; (case hm => first | with_reducible assumption | repeat (first | exact .head _ | apply mT)); (case hn => first | rfl | simp))
    rfl
set_option maxRecDepth 100000 in
set_option maxHeartbeats 4000000 in
theorem refWide_long (low high m : Nat) (hl : low < B) (hh : high < B) (hm : m < B) (hs : ¬ m < 18446744073709551616) (w : World) : Calls Tryz.prog 73 #[num low, num high, num m] w fun e w' =>
    e = .returned (.tuple #[num (widN low high m), .int .i64 0]) ∧ Below w.heap.size w w' := by
  have h0 : m ≠ 0 := by omega
  have z := xDl hm B_pos h0
  have cw := refWord_any m hm
  rw [decide_eq_false hs] at cw
  have hR := Rep.init w
  go_enter Tryz.func73, Tryz.ntmps73
  go_wp2_with (first | (refine' xAb hR rfl rfl rfl ?_; clear hR; intro blk w hR) | (refine' xAa hR rfl rfl inferInstance ?_; clear hR; intro blk w hR) | (refine' aAq hR rfl rfl rfl inferInstance ?_) | (refine' aBq hR rfl rfl rfl inferInstance ?_) | (refine' aCq hR rfl rfl rfl inferInstance ?_) | (refine' aDq hR rfl rfl rfl inferInstance rfl ?_; clear hR; intro w hR) | (refine' aEq hR rfl rfl rfl inferInstance rfl rfl ?_; clear hR; intro w hR) | (go_at_call 66; refine (cw _).mono ?_; rintro e w ⟨rfl, hb⟩; replace hR := hR.call hb; clear hb))
  clear cw z
  (first | (rename_i b6; change Nat at b6) | (rename_i b6 _; change Nat at b6) | (rename_i b6 _ _; change Nat at b6) | (rename_i b6 _ _ _; change Nat at b6) | (rename_i b6 _ _ _ _; change Nat at b6) | (rename_i b6 _ _ _ _ _; change Nat at b6) | (rename_i b6 _ _ _ _ _ _; change Nat at b6) | (rename_i b6 _ _ _ _ _ _ _; change Nat at b6) | (rename_i b6 _ _ _ _ _ _ _ _; change Nat at b6) | (rename_i b6 _ _ _ _ _ _ _ _ _; change Nat at b6) | (rename_i b6 _ _ _ _ _ _ _ _ _ _; change Nat at b6) | (rename_i b6 _ _ _ _ _ _ _ _ _ _ _; change Nat at b6) | (rename_i b6 _ _ _ _ _ _ _ _ _ _ _ _; change Nat at b6) | (rename_i b6 _ _ _ _ _ _ _ _ _ _ _ _ _; change Nat at b6))
  (first | (rename_i b5; change Nat at b5) | (rename_i b5 _; change Nat at b5) | (rename_i b5 _ _; change Nat at b5) | (rename_i b5 _ _ _; change Nat at b5) | (rename_i b5 _ _ _ _; change Nat at b5) | (rename_i b5 _ _ _ _ _; change Nat at b5) | (rename_i b5 _ _ _ _ _ _; change Nat at b5) | (rename_i b5 _ _ _ _ _ _ _; change Nat at b5) | (rename_i b5 _ _ _ _ _ _ _ _; change Nat at b5) | (rename_i b5 _ _ _ _ _ _ _ _ _; change Nat at b5) | (rename_i b5 _ _ _ _ _ _ _ _ _ _; change Nat at b5) | (rename_i b5 _ _ _ _ _ _ _ _ _ _ _; change Nat at b5) | (rename_i b5 _ _ _ _ _ _ _ _ _ _ _ _; change Nat at b5) | (rename_i b5 _ _ _ _ _ _ _ _ _ _ _ _ _; change Nat at b5))
  (first | (rename_i b4; change Nat at b4) | (rename_i b4 _; change Nat at b4) | (rename_i b4 _ _; change Nat at b4) | (rename_i b4 _ _ _; change Nat at b4) | (rename_i b4 _ _ _ _; change Nat at b4) | (rename_i b4 _ _ _ _ _; change Nat at b4) | (rename_i b4 _ _ _ _ _ _; change Nat at b4) | (rename_i b4 _ _ _ _ _ _ _; change Nat at b4) | (rename_i b4 _ _ _ _ _ _ _ _; change Nat at b4) | (rename_i b4 _ _ _ _ _ _ _ _ _; change Nat at b4) | (rename_i b4 _ _ _ _ _ _ _ _ _ _; change Nat at b4) | (rename_i b4 _ _ _ _ _ _ _ _ _ _ _; change Nat at b4) | (rename_i b4 _ _ _ _ _ _ _ _ _ _ _ _; change Nat at b4) | (rename_i b4 _ _ _ _ _ _ _ _ _ _ _ _ _; change Nat at b4))
  (first | (rename_i b3; change Nat at b3) | (rename_i b3 _; change Nat at b3) | (rename_i b3 _ _; change Nat at b3) | (rename_i b3 _ _ _; change Nat at b3) | (rename_i b3 _ _ _ _; change Nat at b3) | (rename_i b3 _ _ _ _ _; change Nat at b3) | (rename_i b3 _ _ _ _ _ _; change Nat at b3) | (rename_i b3 _ _ _ _ _ _ _; change Nat at b3) | (rename_i b3 _ _ _ _ _ _ _ _; change Nat at b3) | (rename_i b3 _ _ _ _ _ _ _ _ _; change Nat at b3) | (rename_i b3 _ _ _ _ _ _ _ _ _ _; change Nat at b3) | (rename_i b3 _ _ _ _ _ _ _ _ _ _ _; change Nat at b3) | (rename_i b3 _ _ _ _ _ _ _ _ _ _ _ _; change Nat at b3) | (rename_i b3 _ _ _ _ _ _ _ _ _ _ _ _ _; change Nat at b3))
  refine' xCa (false :: false :: false :: false :: false :: false :: false :: false :: false :: false :: false :: false :: false :: false :: false :: false :: false :: false :: false :: false :: false :: false :: false :: false :: false :: false :: false :: false :: false :: false :: false :: false :: false :: false :: false :: false :: false :: false :: false :: false :: false :: false :: false :: false :: true :: true :: true :: true :: true :: true :: true :: true :: true :: true :: false :: false :: false :: false :: false :: false :: false :: false :: false :: false :: false :: []) (fun j l => l.set 12 (.int .i64 ((j : Int) - 1))) (fun j => [(blk, .cells (nl (rW m 0 high j)).toArray 24), (b6, .cells (nl 0).toArray 24), (b5, .cells (nl m).toArray 24), (b4, .cells (nl high).toArray 24), (b3, .cells (nl low).toArray 24)]) 256 ?h0 ?hR ?hs ?he
  case hR =>
    show Rep _ _ ((_, .cells (nl (rW m 0 high 256)).toArray _) :: _) _
    rw [rW_top (by omega) (by assumption), ← nl_zero]
    exact hR
  case h0 => exact xAu rfl rfl rfl
  case hs =>
    clear hR
    intro j tm w hj ht hR K hK
    repeat (first | (obtain ⟨x, tm', e, ht'⟩ := xAf ht; clear ht; subst e; have ht := ht'; clear ht') | (obtain ⟨tm', e, ht'⟩ := xAc ht; clear ht; subst e; have ht := ht'; clear ht'))
    obtain rfl := xAk ht
    clear ht
    obtain ⟨bit, S, hbit, ebit, er, eS⟩ := wide_round m 0 high j h0 hj
    have hRb := rW_lt h0 0 high (j + 1)
    have cbit := fun w => refBit_any high (j : Int) (by assumption) w
    rw [bitN_nat high j (by omega), ebit] at cbit
    have cnext := fun w => refTwice_any _ bit m hRb hm hbit w
    rw [er] at cnext
    clear ebit hRb er eS hbit
    generalize rW m 0 high (j + 1) = R at *
    have e1 : ((j + 1 : Nat) : Int) - 1 = (j : Int) := by omega
    rw [e1]
    have kj0 : 0 ≤ (j : Int) := by omega
    have kj1 : (j : Int) < 256 := by omega
    clear e1
    go_wp2_with (first | (refine' xAb hR rfl rfl rfl ?_; clear hR; intro blk w hR) | (refine' xAa hR rfl rfl inferInstance ?_; clear hR; intro blk w hR) | (refine' aAq hR rfl rfl rfl inferInstance ?_) | (refine' aBq hR rfl rfl rfl inferInstance ?_) | (refine' aCq hR rfl rfl rfl inferInstance ?_) | (refine' aDq hR rfl rfl rfl inferInstance rfl ?_; clear hR; intro w hR) | (refine' aEq hR rfl rfl rfl inferInstance rfl rfl ?_; clear hR; intro w hR) | fail)
    refine xAg hR [0, 0, 0, 0, 0, 0, 2] [] xCt (by kernel_rfl) rfl rfl (fun K hK => ?_)
    clear hR
    repeat ((first | (refine xBj ?_) | (refine' xAs (by decide) rfl (.inl rfl) rfl ?ha ?_) | (refine' xAs (by decide) rfl (.inr rfl) rfl ?ha ?_) | (refine' xAr rfl rfl rfl inferInstance ?hm ?hn ?ha ?_; (case hm => first | with_reducible assumption | repeat (first | exact .head _ | apply mT)); (case hn => first | rfl | simp)) | (refine' xAm rfl rfl rfl inferInstance ?hm ?hv ?hn ?ha ?_; (case hm => first | with_reducible assumption | repeat (first | exact .head _ | apply mT)); (case hv => first | with_reducible assumption | (simp only [kC, kD, kE, kF]; try rfl)); (case hn => first | rfl | simp)) | (refine' xAi rfl rfl rfl inferInstance ?hm ?hv ?ha ?_; (case hm => first | with_reducible assumption | repeat (first | exact .head _ | apply mT)); (case hv => first | rfl | with_reducible assumption)) | (refine' xAn rfl rfl rfl inferInstance ?hm ?hv ?hn ?ha ?_; (case hm => first | with_reducible assumption | repeat (first | exact .head _ | apply mT)); (case hv => first | with_reducible assumption | (simp only [kC, kD, kE, kF]; try rfl)); (case hn => first | rfl | simp)) | (refine' xAj rfl rfl rfl inferInstance ?hm ?hv ?ha ?_; (case hm => first | with_reducible assumption | repeat (first | exact .head _ | apply mT)); (case hv => first | rfl | with_reducible assumption)) | ((first | refine' xAd (by decide) rfl rfl rfl rfl (fun w => ?hq) ?ha ?_ | refine' xBf (by decide) rfl rfl rfl rfl (fun w => ?hq) ?ha ?_ | refine' xAp (by decide) rfl rfl rfl (fun w => ?hq) ?ha ?_ | refine' xAe (by decide) rfl rfl rfl (fun w => ?hq) ?ha ?_ | refine' xAo (by decide) rfl rfl rfl (fun w => ?hq) ?ha ?_ | refine' xBd (by decide) rfl rfl rfl rfl (fun w => ?hq) ?ha ?_ | refine' xBc (by decide) rfl rfl rfl rfl rfl rfl (fun w => ?hq) ?ha ?_ | refine' xBb (by decide) rfl rfl (fun w => ?hq) ?ha ?_ | refine' xAq (by decide) rfl rfl rfl (fun w => ?hq) ?ha ?_ | refine' xBe (by decide) rfl rfl rfl (fun w => ?hq) ?ha ?_); (case hq => go_simp; try rfl)) | (refine' xAh (by decide) rfl rfl rfl ?ha ?_) | (refine' xBl (by decide) rfl rfl rfl rfl ?ha ?_) | (refine' xBk (by decide) rfl ?ha ?_) | (refine' xBg rfl rfl rfl (xBi Tryz.func70 (by kernel_rfl) (by kernel_rfl) _) (fun w => cbit w) ?ha ?_) | (refine' xBg rfl rfl rfl (xBi Tryz.func100 (by kernel_rfl) (by kernel_rfl) _) (fun w => cnext w) ?ha ?_)); try (case ha => simp only [kP, kQ, kA, kB]; try rfl))
    refine xBs (hK _ _ ?_)
    clear hK K
    refine xBx (fun Q hQ => ?_)
    try simp only [List.nil_append, List.cons_append]
    repeat ((first | refine' xBa rfl (.inl rfl) rfl ?hk ?ha ?_ | refine' xBa rfl (.inr rfl) rfl ?hk ?ha ?_ | (refine' xAv rfl rfl rfl inferInstance rfl ?hs rfl rfl ?hn ?hk ?ha ?_; (case hs => repeat (first | exact xAx.head | apply xAx.tail)); (case hn => first | rfl | simp)) | (refine' xAl rfl rfl rfl inferInstance rfl rfl ?hs ?hn ?hl ?hk ?ha ?_; (case hs => repeat (first | exact xAx.head | apply xAx.tail)); (case hn => first | exact oD rfl | (show _ < 4; with_reducible assumption) | (simp; try omega)); (case hl => first | with_reducible assumption | (simp only [nl, kA, kB]; first | done | rfl) | rfl)) | (refine' xAw rfl rfl rfl inferInstance rfl rfl ?hvn ?hs ?hn ?hl ?hk ?ha ?_; (case hvn => first | rfl | simp); (case hs => repeat (first | exact xAx.head | apply xAx.tail)); (case hn => first | exact oD rfl | (show _ < 4; with_reducible assumption) | (simp; try omega)); (case hl => first | with_reducible assumption | (simp only [nl, kA, kB]; first | done | rfl) | rfl)) | (refine' xBm rfl (fun w => ?hq) ?hk ?ha ?_; (case hq => go_simp; try rfl))); (case hk => intro p hp; first | exact absurd hp List.not_mem_nil | (obtain rfl := List.mem_singleton.1 hp; repeat (first | exact List.Mem.head _ | apply mT))); (case ha => simp only [kP, kQ, kA, kB]; try rfl))
    refine xBw (fun w hR => hQ _ _ ?_)
    clear hQ Q
    go_wp2_with (first | (refine' xAb hR rfl rfl rfl ?_; clear hR; intro blk w hR) | (refine' xAa hR rfl rfl inferInstance ?_; clear hR; intro blk w hR) | (refine' aAq hR rfl rfl rfl inferInstance ?_) | (refine' aBq hR rfl rfl rfl inferInstance ?_) | (refine' aCq hR rfl rfl rfl inferInstance ?_) | (refine' aDq hR rfl rfl rfl inferInstance rfl ?_; clear hR; intro w hR) | (refine' aEq hR rfl rfl rfl inferInstance rfl rfl ?_; clear hR; intro w hR) | fail)
    exact hK.out _ _ (xAu rfl rfl rfl) hR
  case he =>
    clear hR
    intro tm w ht hR K
    simp only [Int.natCast_zero, Int.zero_sub] at ht
    repeat (first | (obtain ⟨x, tm', e, ht'⟩ := xAf ht; clear ht; subst e; have ht := ht'; clear ht') | (obtain ⟨tm', e, ht'⟩ := xAc ht; clear ht; subst e; have ht := ht'; clear ht'))
    obtain rfl := xAk ht
    clear ht
    rw [rW_zero] at hR
    rw [Nat.zero_mul, Nat.zero_add] at hR
    have r1 : high % m < m := Nat.mod_lt _ (by omega)
    go_wp2_with (first | (refine' xAb hR rfl rfl rfl ?_; clear hR; intro blk w hR) | (refine' xAa hR rfl rfl inferInstance ?_; clear hR; intro blk w hR) | (refine' aAq hR rfl rfl rfl inferInstance ?_) | (refine' aBq hR rfl rfl rfl inferInstance ?_) | (refine' aCq hR rfl rfl rfl inferInstance ?_) | (refine' aDq hR rfl rfl rfl inferInstance rfl ?_; clear hR; intro w hR) | (refine' aEq hR rfl rfl rfl inferInstance rfl rfl ?_; clear hR; intro w hR) | fail)
    refine' xCa (false :: false :: false :: false :: false :: false :: false :: false :: false :: false :: false :: false :: false :: false :: false :: false :: false :: false :: false :: false :: false :: false :: false :: false :: false :: false :: false :: false :: false :: false :: false :: false :: false :: false :: false :: false :: false :: false :: false :: false :: false :: false :: false :: false :: false :: false :: false :: false :: false :: false :: false :: false :: false :: false :: true :: true :: true :: true :: true :: true :: true :: true :: true :: true :: false :: []) (fun j l => l.set 13 (.int .i64 ((j : Int) - 1))) (fun j => [(blk, .cells (nl (rW m (high % m) low j)).toArray 24), (b6, .cells (nl 0).toArray 24), (b5, .cells (nl m).toArray 24), (b4, .cells (nl high).toArray 24), (b3, .cells (nl low).toArray 24)]) 256 ?h02 ?hR2 ?hs2 ?he2
    case hR2 =>
      show Rep _ _ ((_, .cells (nl (rW m (high % m) low 256)).toArray _) :: _) _
      rw [rW_top (by omega) (by assumption)]
      exact hR
    case h02 => exact xAu rfl rfl rfl
    case hs2 =>
      clear hR
      intro j tm w hj ht hR K hK
      repeat (first | (obtain ⟨x, tm', e, ht'⟩ := xAf ht; clear ht; subst e; have ht := ht'; clear ht') | (obtain ⟨tm', e, ht'⟩ := xAc ht; clear ht; subst e; have ht := ht'; clear ht'))
      obtain rfl := xAk ht
      clear ht
      obtain ⟨bit, S, hbit, ebit, er, eS⟩ := wide_round m (high % m) low j h0 hj
      have hRb := rW_lt h0 (high % m) low (j + 1)
      have cbit := fun w => refBit_any low (j : Int) (by assumption) w
      rw [bitN_nat low j (by omega), ebit] at cbit
      have cnext := fun w => refTwice_any _ bit m hRb hm hbit w
      rw [er] at cnext
      clear ebit hRb er eS hbit
      generalize rW m (high % m) low (j + 1) = R at *
      have e1 : ((j + 1 : Nat) : Int) - 1 = (j : Int) := by omega
      rw [e1]
      have kj0 : 0 ≤ (j : Int) := by omega
      have kj1 : (j : Int) < 256 := by omega
      clear e1
      go_wp2_with (first | (refine' xAb hR rfl rfl rfl ?_; clear hR; intro blk w hR) | (refine' xAa hR rfl rfl inferInstance ?_; clear hR; intro blk w hR) | (refine' aAq hR rfl rfl rfl inferInstance ?_) | (refine' aBq hR rfl rfl rfl inferInstance ?_) | (refine' aCq hR rfl rfl rfl inferInstance ?_) | (refine' aDq hR rfl rfl rfl inferInstance rfl ?_; clear hR; intro w hR) | (refine' aEq hR rfl rfl rfl inferInstance rfl rfl ?_; clear hR; intro w hR) | fail)
      refine xAg hR [0, 0, 0, 0, 0, 0, 2] [] xCt (by kernel_rfl) rfl rfl (fun K hK => ?_)
      clear hR
      repeat ((first | (refine xBj ?_) | (refine' xAs (by decide) rfl (.inl rfl) rfl ?ha ?_) | (refine' xAs (by decide) rfl (.inr rfl) rfl ?ha ?_) | (refine' xAr rfl rfl rfl inferInstance ?hm ?hn ?ha ?_; (case hm => first | with_reducible assumption | repeat (first | exact .head _ | apply mT)); (case hn => first | rfl | simp)) | (refine' xAm rfl rfl rfl inferInstance ?hm ?hv ?hn ?ha ?_; (case hm => first | with_reducible assumption | repeat (first | exact .head _ | apply mT)); (case hv => first | with_reducible assumption | (simp only [kC, kD, kE, kF]; try rfl)); (case hn => first | rfl | simp)) | (refine' xAi rfl rfl rfl inferInstance ?hm ?hv ?ha ?_; (case hm => first | with_reducible assumption | repeat (first | exact .head _ | apply mT)); (case hv => first | rfl | with_reducible assumption)) | (refine' xAn rfl rfl rfl inferInstance ?hm ?hv ?hn ?ha ?_; (case hm => first | with_reducible assumption | repeat (first | exact .head _ | apply mT)); (case hv => first | with_reducible assumption | (simp only [kC, kD, kE, kF]; try rfl)); (case hn => first | rfl | simp)) | (refine' xAj rfl rfl rfl inferInstance ?hm ?hv ?ha ?_; (case hm => first | with_reducible assumption | repeat (first | exact .head _ | apply mT)); (case hv => first | rfl | with_reducible assumption)) | ((first | refine' xAd (by decide) rfl rfl rfl rfl (fun w => ?hq) ?ha ?_ | refine' xBf (by decide) rfl rfl rfl rfl (fun w => ?hq) ?ha ?_ | refine' xAp (by decide) rfl rfl rfl (fun w => ?hq) ?ha ?_ | refine' xAe (by decide) rfl rfl rfl (fun w => ?hq) ?ha ?_ | refine' xAo (by decide) rfl rfl rfl (fun w => ?hq) ?ha ?_ | refine' xBd (by decide) rfl rfl rfl rfl (fun w => ?hq) ?ha ?_ | refine' xBc (by decide) rfl rfl rfl rfl rfl rfl (fun w => ?hq) ?ha ?_ | refine' xBb (by decide) rfl rfl (fun w => ?hq) ?ha ?_ | refine' xAq (by decide) rfl rfl rfl (fun w => ?hq) ?ha ?_ | refine' xBe (by decide) rfl rfl rfl (fun w => ?hq) ?ha ?_); (case hq => go_simp; try rfl)) | (refine' xAh (by decide) rfl rfl rfl ?ha ?_) | (refine' xBl (by decide) rfl rfl rfl rfl ?ha ?_) | (refine' xBk (by decide) rfl ?ha ?_) | (refine' xBg rfl rfl rfl (xBi Tryz.func70 (by kernel_rfl) (by kernel_rfl) _) (fun w => cbit w) ?ha ?_) | (refine' xBg rfl rfl rfl (xBi Tryz.func100 (by kernel_rfl) (by kernel_rfl) _) (fun w => cnext w) ?ha ?_)); try (case ha => simp only [kP, kQ, kA, kB]; try rfl))
      refine xBs (hK _ _ ?_)
      clear hK K
      refine xBx (fun Q hQ => ?_)
      try simp only [List.nil_append, List.cons_append]
      repeat ((first | refine' xBa rfl (.inl rfl) rfl ?hk ?ha ?_ | refine' xBa rfl (.inr rfl) rfl ?hk ?ha ?_ | (refine' xAv rfl rfl rfl inferInstance rfl ?hs rfl rfl ?hn ?hk ?ha ?_; (case hs => repeat (first | exact xAx.head | apply xAx.tail)); (case hn => first | rfl | simp)) | (refine' xAl rfl rfl rfl inferInstance rfl rfl ?hs ?hn ?hl ?hk ?ha ?_; (case hs => repeat (first | exact xAx.head | apply xAx.tail)); (case hn => first | exact oD rfl | (show _ < 4; with_reducible assumption) | (simp; try omega)); (case hl => first | with_reducible assumption | (simp only [nl, kA, kB]; first | done | rfl) | rfl)) | (refine' xAw rfl rfl rfl inferInstance rfl rfl ?hvn ?hs ?hn ?hl ?hk ?ha ?_; (case hvn => first | rfl | simp); (case hs => repeat (first | exact xAx.head | apply xAx.tail)); (case hn => first | exact oD rfl | (show _ < 4; with_reducible assumption) | (simp; try omega)); (case hl => first | with_reducible assumption | (simp only [nl, kA, kB]; first | done | rfl) | rfl)) | (refine' xBm rfl (fun w => ?hq) ?hk ?ha ?_; (case hq => go_simp; try rfl))); (case hk => intro p hp; first | exact absurd hp List.not_mem_nil | (obtain rfl := List.mem_singleton.1 hp; repeat (first | exact List.Mem.head _ | apply mT))); (case ha => simp only [kP, kQ, kA, kB]; try rfl))
      refine xBw (fun w hR => hQ _ _ ?_)
      clear hQ Q
      go_wp2_with (first | (refine' xAb hR rfl rfl rfl ?_; clear hR; intro blk w hR) | (refine' xAa hR rfl rfl inferInstance ?_; clear hR; intro blk w hR) | (refine' aAq hR rfl rfl rfl inferInstance ?_) | (refine' aBq hR rfl rfl rfl inferInstance ?_) | (refine' aCq hR rfl rfl rfl inferInstance ?_) | (refine' aDq hR rfl rfl rfl inferInstance rfl ?_; clear hR; intro w hR) | (refine' aEq hR rfl rfl rfl inferInstance rfl rfl ?_; clear hR; intro w hR) | fail)
      exact hK.out _ _ (xAu rfl rfl rfl) hR
    case he2 =>
      clear hR
      intro tm w ht hR K
      simp only [Int.natCast_zero, Int.zero_sub] at ht
      repeat (first | (obtain ⟨x, tm', e, ht'⟩ := xAf ht; clear ht; subst e; have ht := ht'; clear ht') | (obtain ⟨tm', e, ht'⟩ := xAc ht; clear ht; subst e; have ht := ht'; clear ht'))
      obtain rfl := xAk ht
      clear ht
      rw [rW_zero, wide_fin h0] at hR
      go_wp2_with (first | (refine' xAb hR rfl rfl rfl ?_; clear hR; intro blk w hR) | (refine' xAa hR rfl rfl inferInstance ?_; clear hR; intro blk w hR) | (refine' aAq hR rfl rfl rfl inferInstance ?_) | (refine' aBq hR rfl rfl rfl inferInstance ?_) | (refine' aCq hR rfl rfl rfl inferInstance ?_) | (refine' aDq hR rfl rfl rfl inferInstance rfl ?_; clear hR; intro w hR) | (refine' aEq hR rfl rfl rfl inferInstance rfl rfl ?_; clear hR; intro w hR) | fail)
      (refine' bodyPost_ret (xAz Tryz.results73 rfl (hR.loadAll (P := Tryz.prog) (ty := 24) ?hm ?hn)) rfl ⟨?_, hR.below⟩; (case hm => first | with_reducible assumption | repeat (first | exact .head _ | apply mT)); (case hn => first | rfl | simp))
      rfl
theorem refWide_none (low high : Nat) (w : World) : Calls Tryz.prog 73 #[num low, num high, num 0] w fun e w' =>
    e = .returned (.tuple #[num 0, .int .i64 1]) ∧ Below w.heap.size w w' := by
  have z := eqN_self 0
  have hR := Rep.init w
  go_enter Tryz.func73, Tryz.ntmps73
  go_wp2_with (first | (refine' xAb hR rfl rfl rfl ?_; clear hR; intro blk w hR) | (refine' xAa hR rfl rfl inferInstance ?_; clear hR; intro blk w hR) | (refine' aAq hR rfl rfl rfl inferInstance ?_) | (refine' aBq hR rfl rfl rfl inferInstance ?_) | (refine' aCq hR rfl rfl rfl inferInstance ?_) | (refine' aDq hR rfl rfl rfl inferInstance rfl ?_; clear hR; intro w hR) | (refine' aEq hR rfl rfl rfl inferInstance rfl rfl ?_; clear hR; intro w hR) | fail)
  (refine' bodyPost_ret (xAz Tryz.results73 rfl (hR.loadAll (P := Tryz.prog) (ty := 24) ?hm ?hn)) rfl ⟨?_, hR.below⟩; (case hm => first | with_reducible assumption | repeat (first | exact .head _ | apply mT)); (case hn => first | rfl | simp))
  rw [xCs]
  rfl
theorem refWide_any (low high m : Nat) (hl : low < B) (hh : high < B) (hm : m < B) (w : World) : Calls Tryz.prog 73 #[num low, num high, num m] w fun e w' =>
    e = .returned (.tuple #[num (widN low high m), .int .i64 (if m = 0 then 1 else 0)]) ∧ Below w.heap.size w w' := by
  by_cases h : m = 0
  · subst h
    rw [if_pos rfl, widN_def, if_pos rfl]
    exact refWide_none low high w
  · rw [if_neg h]
    by_cases hs : m < 18446744073709551616
    · exact refWide_short low high m hl hh h hs w
    · exact refWide_long low high m hl hh hm hs w
end Go.Proofs.YtgfoeongjhkdmaaGreat
namespace Go.Proofs.YtgfoeongjhkdmaaGreat
open Go.RowKit
attribute [local irreducible] Calls Instr.build Instr.buildSlice
def GroV (x : Gro) (vs : List Value) : Prop := (x = ⟨none, 0, []⟩ ∧ vs = []) ∨
  ∃ g, ∃ cur : List Value, x.a = some ⟨g, 0, none⟩ ∧ x.bl = [(g, .cells cur.toArray 49)] ∧ vs.length ≤ x.cap ∧ x.cap ≤ maxLen ∧ cur.length = x.cap ∧ cur.take vs.length = vs
theorem rows_none (a : Option Addr) (c : Nat) (ty : TypeId) (w : World) : (Builtin.append_ #[65, 65] ty #[.slice none 0 0, .slice a 0 c]).run Tryz.prog w = .ok (.slice none 0 0) w := by
  have := Tryz.underlying65
  obtain ⟨i0, hi, hz0, hz1, hz2⟩ := info_parts info_row
  cases a <;> simp [Builtin.append_, run_underlying Tryz.underlying65, Builtin.lenOf, Builtin.firstCells, sizeOf, typeInfo, hi, loadCells, loadCellsFrom]
section
variable {B0 : Nat} {w0 w : World} {L : List (Nat × Obj)}
section
variable {ops : Array Oper} {rest : List Oper} {o : Oper} {a : Act} {Q : Exit → Act → World → Prop}
theorem wpList_rowsNew {n cv : Nat} {av : Option Addr} {V : Nat → Value} (hR : Rep B0 w0 L w) (hgd : o.guard = none) {s y : Operand} (ho : o.op = .call { callee := .builtin .append, args := #[s, y], argTypes := #[65, 65] })
    (hs : a.eval s = .slice none 0 0) (hy : a.eval y = .slice av n cv) (hn : n ≤ 100000) (h1 : ∀ j, j < n → (V j).oneCell' = true)
    (hv : n ≠ 0 → ∃ bb off, av = some ⟨bb, off, none⟩ ∧ ∀ w, Rep B0 w0 L w → ∀ j, j < n → w.cell? ⟨bb, off + j, none⟩ = some (V j))
    (h : ∀ (x : Gro) w', GroV x (rowV V n) → Rep B0 w0 (x.bl ++ L) w' → wpList Tryz.prog ops Q rest (a.put o.dst (.slice x.a n x.cap)) w') : wpList Tryz.prog ops Q (o :: rest) a w := by
  by_cases h0 : n = 0
  · subst h0
    refine wpList_plain hgd fun _ hK => ?_
    unfold Oper.wp execOp
    simp only [ho, resolve, invoke, builtin, Sem.run_bind, Sem.run_pure, Result.andThen_ok, List.map_toArray, List.map_cons, List.map_nil, hs, hy, rows_none]
    exact hK _ _ (h ⟨none, 0, []⟩ w (.inl ⟨rfl, by rw [rowV_def]; rfl⟩) hR)
  · obtain ⟨bb, off, rfl, c5⟩ := hv h0
    obtain ⟨i0, hi, hz0, hz1, hz2⟩ := info_parts info_row
    refine xCp hR hgd ho Tryz.underlying65 hi hz0 hz1 hz2 rfl hs hy (xCi V n) (by omega) (fun j u hj => ?_) (fun u hu => ?_) (by unfold maxLen; omega) (by omega) ?_
    · have hjn : j < n := by
        have := (List.getElem?_eq_some_iff.1 hj).1
        simpa using this
      rw [rowV_at hjn] at hj
      rw [← Option.some.inj hj, addr_none]
      exact c5 w hR j hjn
    · obtain ⟨j, hj, rfl⟩ := List.getElem_of_mem hu
      have hjn : j < n := by simpa using hj
      have e := rowV_at (V := V) hjn
      rw [List.getElem?_eq_getElem hj] at e
      rw [Option.some.inj e]
      exact h1 j hjn
    · intro g' cap' cur' w' hR' d1 d2 d3 d4
      exact h ⟨some ⟨g', 0, none⟩, cap', [(g', .cells cur'.toArray 49)]⟩ w' (.inr ⟨g', cur', rfl, rfl, by rw [xCi]; exact d1, d2, d3, by rw [xCi]; exact d4⟩) hR'
theorem wpList_rowsOne {x : Gro} {vs : List Value} {b n : Nat} {u : Value} (hR : Rep B0 w0 ((b, .cells [u].toArray 49) :: (x.bl ++ L)) w) (hgd : o.guard = none) {s y : Operand} (ho : o.op = .call { callee := .builtin .append, args := #[s, y], argTypes := #[65, 65] })
    (hs : a.eval s = .slice x.a n x.cap) (hy : a.eval y = .slice (some ⟨b, 0, none⟩) 1 1) (hl : vs.length = n) (hx : GroV x vs) (hn : n ≤ 100000) (h1 : u.oneCell' = true)
    (h : ∀ (x : Gro) w', GroV x (vs ++ [u]) → Rep B0 w0 (x.bl ++ L) w' → wpList Tryz.prog ops Q rest (a.put o.dst (.slice x.a (n + 1) x.cap)) w') : wpList Tryz.prog ops Q (o :: rest) a w := by
  subst hl
  obtain ⟨i0, hi, hz0, hz1, hz2⟩ := info_parts info_row
  rcases hx with ⟨rfl, rfl⟩ | ⟨g, cur, ha, hbl, k1, k2, k3, k4⟩
  · have hR0 : Rep B0 w0 ((b, .cells [u].toArray 49) :: L) w := hR
    refine xCp (news := [u]) hR0 hgd ho Tryz.underlying65 hi hz0 hz1 hz2 rfl hs hy rfl (by decide) (fun j v hj => ?_) (fun v hv => by rw [List.mem_singleton.1 hv]; exact h1) (by unfold maxLen; decide) (by decide) ?_
    · match j, hj with
      | 0, hj =>
        obtain rfl : u = v := Option.some.inj hj
        have := hR0.cell (off := 0) (l := [u]) (.head _) rfl
        simpa [Addr.add] using this
    · intro g' cap' cur' w' hR' d1 d2 d3 d4
      exact h ⟨some ⟨g', 0, none⟩, cap', [(g', .cells cur'.toArray 49)]⟩ w' (.inr ⟨g', cur', rfl, rfl, d1, d2, d3, d4⟩) (hR'.weaken ((List.sublist_cons_self _ _).cons_cons _))
  · rw [ha] at hs
    rw [hbl] at hR
    refine xCd (L := L) hR hgd ho Tryz.underlying65 hi hz0 hz1 hz2 rfl hs hy k1 k2 k3 h1 (by unfold maxLen; omega) (by omega) ?_
    intro g' cap' cur' w' hR' d1 d2 d3 d4
    exact h ⟨some ⟨g', 0, none⟩, cap', [(g', .cells cur'.toArray 49)]⟩ w' (.inr ⟨g', cur', rfl, rfl, by rw [List.length_append]; exact d1, d2, d3, by rw [List.length_append]; exact d4.trans (by rw [k4])⟩) hR'
end
theorem rows_plus {x : Gro} {V : Nat → Value} {xss : List (List Nat)} {bt n : Nat} {c : Int} {M : List (Nat × Obj)} (hc : c = (n : Int)) (hn : n < 256) (hN : xss.length ≤ 100000) (hx : GroV x (rowV V xss.length ++ [.slice (some ⟨bt, 0, none⟩) 1 1]))
    (h : ∀ j, j < xss.length → xBo B0 w0 M (V j) (xss.getD j []) ∧ (xss.getD j []).length ≤ reachBytes) : RowsOf B0 w0 (x.bl ++ ((bt, .cells [Value.int .u8 c].toArray 5) :: M)) (.slice x.a (xss.length + 1) x.cap) (xss ++ [[n]]) := by
  subst hc
  have hlen : (xss ++ [[n]]).length = xss.length + 1 := List.length_append
  rcases hx with ⟨_, h0⟩ | ⟨g, cur, ha, hbl, k1, k2, k3, k4⟩
  · simp at h0
  rw [List.length_append, xCi] at k1 k4
  refine ⟨x.a, x.cap, fun j => if j < xss.length then V j else .slice (some ⟨bt, 0, none⟩) 1 1, by rw [hlen], by rw [hlen]; exact k1, k2, fun j hj => ?_, fun _ => ⟨g, 0, ha, fun w hw j hj => ?_⟩⟩
  · rw [hlen] at hj
    show xBo B0 w0 _ (if j < xss.length then V j else .slice (some ⟨bt, 0, none⟩) 1 1) _ ∧ _
    by_cases hjN : j < xss.length
    · have e : (xss ++ [[n]]).getD j [] = xss.getD j [] := by rw [List.getD_eq_getElem?_getD, List.getElem?_append_left hjN, ← List.getD_eq_getElem?_getD]
      rw [if_pos hjN, e]
      exact ⟨(h j hjN).1.mono fun w hw => (hw.weaken (List.sublist_append_right _ _)).drop1, (h j hjN).2⟩
    · obtain rfl : j = xss.length := by omega
      have e : (xss ++ [[n]]).getD xss.length [] = [n] := by
        rw [List.getD_eq_getElem?_getD, List.getElem?_append_right (Nat.le_refl _), Nat.sub_self]
        rfl
      rw [if_neg hjN, e]
      exact ⟨byte_slice (List.mem_append_right _ (.head _)) hn, by show 1 ≤ reachBytes; unfold reachBytes; decide⟩
  · rw [hlen] at hj
    rw [Nat.zero_add]
    refine hw.cell (List.mem_append_left _ (by rw [hbl]; exact .head _)) ?_
    have e : cur[j]? = (rowV V xss.length ++ [Value.slice (some ⟨bt, 0, none⟩) 1 1])[j]? := by
      rw [← k4, List.getElem?_take, if_pos (show j < xss.length + [Value.slice (some ⟨bt, 0, none⟩) 1 1].length from hj)]
    rw [e]
    by_cases hjN : j < xss.length
    · show _ = some (if j < xss.length then V j else _)
      rw [if_pos hjN, List.getElem?_append_left (by rw [xCi]; exact hjN), rowV_at hjN]
    · obtain rfl : j = xss.length := by omega
      show _ = some (if xss.length < xss.length then _ else _)
      rw [if_neg hjN, List.getElem?_append_right (by rw [xCi]; exact Nat.le_refl _), xCi, Nat.sub_self]
      rfl
theorem totL_plus (xss : List (List Nat)) (n : Nat) : totL (xss ++ [[n]]) (xss ++ [[n]]).length = totL xss xss.length + 1 := by
  unfold totL
  rw [List.take_of_length_le (Nat.le_refl _), List.take_of_length_le (Nat.le_refl _), List.map_append, List.sum_append]
  rfl
set_option maxRecDepth 100000 in
set_option maxHeartbeats 8000000 in
theorem ref6_number (m : Nat) (s : ByteArray) (v : Value) (xss : List (List Nat)) (hm : m < B) (hs : s.size ≤ 100000) (hN1 : xss.length < 1000) (htot : totL xss xss.length < 1000000) (hv : RowsOf B0 w0 L v xss) (hR : Rep B0 w0 L w) :
    Calls Tryz.prog 35 #[num m, .string s, v] w fun e w' => e = .returned (.tuple #[num (hnumN (strB s) xss m), .int .i64 (if m = 0 then 1 else 0)]) ∧ Rep B0 w0 L w' := by
  obtain ⟨a, cp, V, rfl, h1, h2, h4, h5⟩ := hv
  by_cases hz : m = 0
  · have eb : eqN m 0 = true := eqN_yes hz
    have hres : num (hnumN (strB s) xss m) = num 0 := by unfold hnumN; rw [hz, widN_def, if_pos rfl]
    rw [if_pos hz, hres, ← xCs]
    clear hz h4 h5 hres
    go_enter Tryz.func35, Tryz.ntmps35
    go_wp2_with (first | (refine' xAb hR rfl rfl rfl ?_; clear hR; intro blk w hR) | (refine' xAa hR rfl rfl inferInstance ?_; clear hR; intro blk w hR) | (refine' aFq hR rfl rfl rfl inferInstance ?_) | (refine' aGq hR rfl rfl rfl inferInstance ?_) | (refine' aHq hR rfl rfl rfl inferInstance ?_) | (refine' aDq hR rfl rfl rfl inferInstance rfl ?_; clear hR; intro w hR) | (refine' aEq hR rfl rfl rfl inferInstance rfl rfl ?_; clear hR; intro w hR) | (refine' xAy hR rfl rfl rfl inferInstance ?hm ?hn ?_; (case hm => first | with_reducible assumption | repeat (first | exact .head _ | with_reducible assumption | apply mC)); (case hn => first | rfl | simp)) | (refine' xAt hR rfl rfl rfl inferInstance ?hm ?hv ?_; (case hm => first | with_reducible assumption | repeat (first | exact .head _ | with_reducible assumption | apply mC)); (case hv => first | rfl | with_reducible assumption)) | (refine' xBh hR rfl rfl rfl inferInstance ?hm ?hv ?hn ?_; (case hm => first | with_reducible assumption | repeat (first | exact .head _ | with_reducible assumption | apply mC)); (case hv => first | with_reducible assumption | (simp only [kC, kD, kE, kF]; try rfl)); (case hn => first | rfl | simp)) | fail)
    (refine' bodyPost_ret (xAz Tryz.results35 rfl (hR.loadAll (P := Tryz.prog) (ty := 24) ?hm ?hn)) rfl ⟨rfl, hR.drop1.drop1⟩; (case hm => exact .head _); (case hn => rfl))
  have eb : eqN m 0 = false := xDl hm B_pos hz
  rw [if_neg hz]
  obtain ⟨N, hN⟩ : ∃ N, xss.length = N := ⟨_, rfl⟩
  have hne : N ≠ 0 → xss ≠ [] := fun h e => h (by rw [← hN, e]; rfl)
  have hv5 : N ≠ 0 → ∃ bb off, a = some ⟨bb, off, none⟩ ∧ ∀ w, Rep B0 w0 L w → ∀ j, j < N → w.cell? ⟨bb, off + j, none⟩ = some (V j) := fun h => by
    obtain ⟨bb, off, q1, q2⟩ := h5 (hne h)
    exact ⟨bb, off, q1, fun w hw j hj => q2 w hw j (by omega)⟩
  have hone : ∀ j, j < N → (V j).oneCell' = true := fun j hj => one_slice (h4 j (by omega)).1
  have hs4 : ∀ (M : List (Nat × Obj)), (∀ w, Rep B0 w0 M w → Rep B0 w0 L w) → ∀ j, j < xss.length → xBo B0 w0 M (V j) (xss.getD j []) ∧ (xss.getD j []).length ≤ reachBytes := fun M hM j hj => ⟨(h4 j hj).1.mono hM, (h4 j hj).2⟩
  have hp := fun n => totL_plus xss n
  have hl1 : ∀ n, (xss ++ [[n]]).length = N + 1 := fun n => by rw [List.length_append, hN]; rfl
  have co := fun (n : Nat) (c : Int) (hc : c = (n : Int)) (hn : n < 256) (x : Gro) (bt : Nat) (M : List (Nat × Obj)) (hM : ∀ w, Rep B0 w0 M w → Rep B0 w0 L w) (w : World) (hx : GroV x (rowV V N ++ [.slice (some ⟨bt, 0, none⟩) 1 1])) (hR : Rep B0 w0 (x.bl ++ ((bt, .cells [Value.int .u8 c].toArray 5) :: M)) w) =>
    ref6_of s _ (xss ++ [[n]]) hs (by rw [hl1]; omega) (by rw [hp]; omega) (rows_plus hc hn (by omega) (by rw [hN]; exact hx) (hs4 M hM)) hR
  obtain ⟨H0, hH0⟩ : ∃ H, hashF (encB (strB s) (xss ++ [[0]])) = H := ⟨_, rfl⟩
  obtain ⟨H1, hH1⟩ : ∃ H, hashF (encB (strB s) (xss ++ [[1]])) = H := ⟨_, rfl⟩
  have hl0 : ∀ i, H0 i < 256 := fun i => by rw [← hH0]; exact hashF_lt _ i
  have hl1' : ∀ i, H1 i < 256 := fun i => by rw [← hH1]; exact hashF_lt _ i
  have co0 := co 0 0 rfl (by decide)
  have co1 := co 1 1 rfl (by decide)
  clear co
  rw [hH0, hN] at co0
  rw [hH1, hN] at co1
  have hres0 : longN (b32 H0) = halfN (strB s) xss 0 := by rw [halfN_def, hH0]
  have hres1 : longN (b32 H1) = halfN (strB s) xss 1 := by rw [halfN_def, hH1]
  have cg0 := fun (hb : Nat) (M : List (Nat × Obj)) (t : TypeId) (w : World) (hm : (hb, Obj.cells (u8s 32 H0).toArray t) ∈ M) (hR : Rep B0 w0 M w) => rget_long _ (b32 H0) (xCl H0) (slice_here hl0 hm hR)
  have cg1 := fun (hb : Nat) (M : List (Nat × Obj)) (t : TypeId) (w : World) (hm : (hb, Obj.cells (u8s 32 H1).toArray t) ∈ M) (hR : Rep B0 w0 M w) => rget_long _ (b32 H1) (xCl H1) (slice_here hl1' hm hR)
  rw [hres0] at cg0
  rw [hres1] at cg1
  have hx1 := halfN_lt (strB s) xss 1
  have hx0 := halfN_lt (strB s) xss 0
  unfold hnumN
  generalize halfN (strB s) xss 1 = x1 at *
  generalize halfN (strB s) xss 0 = x0 at *
  have cw := fun (w : World) => refWide_any x1 x0 m hx1 hx0 hm w
  rw [if_neg hz] at cw
  generalize widN x1 x0 m = res at *
  have hone0 := u8s_one 32 H0
  have hone1 := u8s_one 32 H1
  have hNl : N ≤ 100000 := by omega
  have hrl := xCi V N
  rw [hN] at h1 ⊢
  replace hNl := Held.mk hNl
  replace hv5 := Held.mk hv5
  replace hone := Held.mk hone
  replace hrl := Held.mk hrl
  replace hN := Held.mk hN
  replace hH0 := Held.mk hH0
  replace hH1 := Held.mk hH1
  clear hne h4 h5 hs4 hp hl1 hl0 hl1' hx1 hx0 hres0 hres1 htot hN1 h1 h2
  go_enter Tryz.func35, Tryz.ntmps35
  go_upto_region 4 with (first | (refine' xAb hR rfl rfl rfl ?_; clear hR; intro blk w hR) | (refine' xAa hR rfl rfl inferInstance ?_; clear hR; intro blk w hR) | (refine' aFq hR rfl rfl rfl inferInstance ?_) | (refine' aGq hR rfl rfl rfl inferInstance ?_) | (refine' aHq hR rfl rfl rfl inferInstance ?_) | (refine' aDq hR rfl rfl rfl inferInstance rfl ?_; clear hR; intro w hR) | (refine' aEq hR rfl rfl rfl inferInstance rfl rfl ?_; clear hR; intro w hR) | (refine' wpList_rowsNew hR rfl rfl rfl rfl hNl.out hone.out (fun h0 => ?zz) ?_; (case zz => exact (hv5.out h0).elim fun bb h => h.elim fun off h => ⟨bb, off, h.1, fun w hw => h.2 w hw.drop1.drop1⟩); clear hR; intro x w hx hR; replace hx := Held.mk hx) | (refine' xBp hR rfl rfl rfl (xCw _) ?_; clear hR; intro bt w hR) | (refine' xBp hR rfl rfl rfl (rows_new _ _ _) ?_; clear hR; intro bs w hR) | (refine' wpList_rowsOne (hR.permB (List.Perm.cons _ List.perm_middle.symm)) rfl rfl rfl rfl hrl.out hx.out hNl.out rfl ?_; clear hR hx; intro x w hx hR; replace hx := Held.mk hx) | (go_at_call 71; refine (co0 _ _ _ (fun w hw => hw.drop1.drop1) _ hx.out hR).mono ?_; clear hR co0 hx; rintro e w ⟨rfl, hR⟩; replace hR := (hR.weaken (List.sublist_append_right _ _)).drop1))
  obtain ⟨b0, hb0⟩ : ∃ x, x = blk := ⟨_, rfl⟩
  subst hb0
  simp only [Act.put, kA, kB, List.setIfInBounds_toArray]
  go_wp2_with (first | (refine' xAb hR rfl rfl rfl ?_; clear hR; intro blk w hR) | (refine' xAa hR rfl rfl inferInstance ?_; clear hR; intro blk w hR) | (refine' aFq hR rfl rfl rfl inferInstance ?_) | (refine' aGq hR rfl rfl rfl inferInstance ?_) | (refine' aHq hR rfl rfl rfl inferInstance ?_) | (refine' aDq hR rfl rfl rfl inferInstance rfl ?_; clear hR; intro w hR) | (refine' aEq hR rfl rfl rfl inferInstance rfl rfl ?_; clear hR; intro w hR) | (refine' wpList_rowsNew hR rfl rfl rfl rfl hNl.out hone.out (fun h0 => ?zz) ?_; (case zz => exact (hv5.out h0).elim fun bb h => h.elim fun off h => ⟨bb, off, h.1, fun w hw => h.2 w hw.drop1.drop1.drop1⟩); clear hR; intro x w hx hR; replace hx := Held.mk hx) | (refine' xBp hR rfl rfl rfl (xCw _) ?_; clear hR; intro bt w hR) | (refine' xBp hR rfl rfl rfl (rows_new _ _ _) ?_; clear hR; intro bs w hR) | (refine' wpList_rowsOne (hR.permB (List.Perm.cons _ List.perm_middle.symm)) rfl rfl rfl rfl hrl.out hx.out hNl.out rfl ?_; clear hR hx; intro x w hx hR; replace hx := Held.mk hx) | (go_at_call 71; refine (co1 _ _ _ (fun w hw => hw.drop1.drop1.drop1) _ hx.out hR).mono ?_; clear hR co1 hx; rintro e w ⟨rfl, hR⟩; replace hR := (hR.weaken (List.sublist_append_right _ _)).drop1) | (go_at_call 72; refine (cg0 _ _ _ _ (by repeat (first | exact .head _ | with_reducible assumption | apply mC)) hR).mono ?_; rintro e w ⟨rfl, hb⟩; replace hR := hR.call hb; clear hb) | (go_at_call 72; refine (cg1 _ _ _ _ (by repeat (first | exact .head _ | with_reducible assumption | apply mC)) hR).mono ?_; rintro e w ⟨rfl, hb⟩; replace hR := hR.call hb; clear hb) | (go_at_call 73; refine (cw _).mono ?_; rintro e w ⟨rfl, hb⟩; replace hR := hR.call hb; clear hb))
  (refine' bodyPost_ret (xAz Tryz.results35 rfl (hR.loadAll (P := Tryz.prog) (ty := 24) ?hm ?hn)) rfl ⟨rfl, hR.drop1.drop1.drop1.drop1.drop1.drop1⟩; (case hm => repeat (first | exact .head _ | with_reducible assumption | apply mC)); (case hn => rfl))
end
end Go.Proofs.YtgfoeongjhkdmaaGreat
