import Derived.Test.YtaaahfjpnggkbaaGreatDoorHDA
import Derived.Test.YtaaahfjpnggkbaaGreatDoorHF
set_option linter.unusedSimpArgs false
set_option linter.unusedVariables false
set_option maxRecDepth 100000
set_option maxHeartbeats 20000000
namespace Go.Proofs.YtaaahfjpnggkbaaGreatDoor
open Go.RowKit
attribute [local irreducible] Calls
noncomputable def rV : Nat → Nat → Nat → Nat := opq fun m T j => T / 18446744073709551616 ^ j % m
theorem rV_def (m T j : Nat) : rV m T j = T / 18446744073709551616 ^ j % m := by unfold rV; rw [xBs]
theorem rV_lt {m : Nat} (h : m ≠ 0) (T j : Nat) : rV m T j < m := by rw [rV_def]; exact Nat.mod_lt _ (by omega)
theorem rV_round (m T j : Nat) : (rV m T (j + 1) * 18446744073709551616 + w64 T j) % m = rV m T j := by
 rw [rV_def, rV_def]
 unfold w64
 have e : T / 18446744073709551616 ^ j = T / 18446744073709551616 ^ (j + 1) * 18446744073709551616 + T / 18446744073709551616 ^ j % 18446744073709551616 := by
  rw [Nat.pow_succ, ← Nat.div_div_eq_div_mul]; omega
 conv => rhs; rw [e]
 rw [Nat.add_mod, Nat.mul_mod, Nat.mod_mod, ← Nat.mul_mod, ← Nat.add_mod]
theorem B_4 : B = 18446744073709551616 ^ 4 := by rw [B_eq]
theorem w64_low (low high j : Nat) (h : j < 4) (hl : low < B) : w64 (high * B + low) j = w64 low j := by
 unfold w64
 obtain ⟨k, hk⟩ : ∃ k, 4 = j + (1 + k) := ⟨3 - j, by omega⟩
 rw [B_4, hk, Nat.pow_add, Nat.mul_comm high, Nat.mul_assoc, Nat.mul_add_div (Nat.pow_pos (by decide)), Nat.pow_add, Nat.pow_one, Nat.mul_assoc, Nat.mul_add_mod]
theorem w64_high (low high j : Nat) (hl : low < B) : w64 (high * B + low) (j + 4) = w64 high j := by
 unfold w64
 rw [Nat.pow_add, Nat.mul_comm (_ ^ j), ← Nat.div_div_eq_div_mul, ← B_4, Nat.mul_comm high, Nat.mul_add_div xEy, Nat.div_eq_of_lt hl, Nat.add_zero]
theorem rV_top {m low high : Nat} (hl : low < B) (hh : high < B) : rV m (high * B + low) 8 = 0 := by
 rw [rV_def, show (18446744073709551616 : Nat) ^ 8 = 18446744073709551616 ^ 4 * 18446744073709551616 ^ 4 by decide, ← B_4, Nat.div_eq_of_lt, Nat.zero_mod]
 have : (high + 1) * B ≤ B * B := Nat.mul_le_mul_right _ hh
 rw [Nat.add_mul, Nat.one_mul] at this
 omega
theorem rV_zero {m low high : Nat} (h0 : m ≠ 0) : rV m (high * B + low) 0 = widN low high m := by
 rw [rV_def, Nat.pow_zero, Nat.div_one, xFn, if_neg h0]
theorem refWide_short (low high m : Nat) (hl : low < B) (hh : high < B) (h0 : m ≠ 0) (hs : m < 18446744073709551616) (w : World) : Calls Tryz.prog 234 #[num low, num high, num m] w fun e w' =>
  e = .returned (.tuple #[num (widN low high m), .int .i64 0]) ∧ Below w.heap.size w w' := by
 have hm : m < B := lt_B hs
 have z := xDq hm xEy h0
 have cw := xCj m hm
 rw [decide_eq_true hs] at cw
 have hR := Rep.init w
 have hlen : widN low high m < 18446744073709551616 := by rw [← rV_zero h0]; exact Nat.lt_trans (rV_lt h0 _ _) hs
 go_enter Tryz.func234, Tryz.ntmps234
 go_wp2_with (first | (refine' aAq hR ?_; clear hR; intro blk w hR) | (refine' aBq hR ?_; clear hR; intro blk w hR) | (refine' aEq hR ?_) | (go_at_call 195; refine (cw _).mono ?_; rintro e w ⟨rfl, hb⟩; replace hR := hR.call hb; clear hb))
 clear cw z
 rename_i b3 _ b4 _ b5 _ _ _ _ _ _
 refine' xBm (false :: false :: false :: false :: false :: false :: false :: false :: false :: false :: true :: false :: false :: false :: false :: false :: false :: false :: false :: false :: true :: true :: true :: true :: true :: true :: true :: true :: true :: true :: true :: true :: true :: true :: true :: true :: true :: true :: true :: true :: true :: true :: false :: false :: false :: false :: false :: false :: false :: false :: false :: false :: false :: false :: false :: false :: false :: false :: false :: false :: false :: false :: false :: false :: false :: []) (fun j l => (l.set 8 (.int .u64 ((rV m (high * B + low) j : Nat) : Int))).set 9 (.int .i64 ((j : Int) - 1))) (fun j => [(blk, .cells (nl 0).toArray 24), (b5, .cells (nl m).toArray 24), (b4, .cells (nl high).toArray 24), (b3, .cells (nl low).toArray 24)]) 8 ?h0 ?hR ?hs ?he
 case hR =>
  rw [← xDf]
  exact hR
 case h0 =>
  simp only [rV_top hl hh]
  exact xAf rfl rfl rfl
 case hs =>
  clear hR
  intro j tm w hj ht hR K hK
  repeat (first | (obtain ⟨x, tm', e, ht'⟩ := xAc ht; clear ht; subst e; have ht := ht'; clear ht') | (obtain ⟨tm', e, ht'⟩ := xAa ht; clear ht; subst e; have ht := ht'; clear ht'))
  obtain rfl := xAe ht
  clear ht
  have e1 : ((j + 1 : Nat) : Int) - 1 = (j : Int) := by omega
  rw [e1]
  have hr := rV_lt h0 (high * B + low) (j + 1)
  have cd := fun w => xGo _ _ m hr hs (xDb (high * B + low) j) w
  rw [rV_round] at cd
  have em : wd m 0 = (m : Int) := by rw [xFm]; unfold w64; omega
  rw [← em] at cd
  generalize rV m (high * B + low) (j + 1) = R at *
  generalize rV m (high * B + low) j = R' at *
  have hv := nl_at low (j % 4) (by omega)
  obtain ⟨y, hy⟩ : ∃ y, j % 4 = y := ⟨_, rfl⟩
  rw [hy] at hv
  have e3 : (j : Int).tmod 4 = (y : Int) := by rw [Int.tmod_eq_emod_of_nonneg (by omega)]; omega
  have e4 : (j : Int) % 4 = (y : Int) := by omega
  have e5 : IntKind.i64.wrap (y : Int) = (y : Int) := by rw [IntKind.wrap_i64]; omega
  have g0 : 0 ≤ (j : Int) := by omega
  have g1 : (j : Int) < 8 := by omega
  have g2 : 0 ≤ (y : Int) := by omega
  have g3 : (y : Int) < 4 := by omega
  have g4 : y < 4 := by omega
  by_cases h4 : j < 4
  ·rw [w64_low low high j h4 hl, ← xFm] at cd
   have ej : j = y := by omega
   rw [ej] at cd
   have g5 : ¬ 4 ≤ (j : Int) := by omega
   clear e1 em hr hy ej h4 hlen
   generalize (R * 18446744073709551616 + w64 (high * B + low) j) / m = q at *
   go_wp2_with (first | (refine' aGq hR ?_) | (go_at_call 229; refine (cd _).mono ?_; rintro e w ⟨rfl, hb⟩; replace hR := hR.call hb; clear hb))
   exact hK.out _ _ (xAf rfl rfl rfl) hR
  ·obtain ⟨x, rfl⟩ : ∃ x, j = x + 4 := ⟨j - 4, by omega⟩
   rw [w64_high low high x hl, ← xFm] at cd
   have hv2 := nl_at high x (by omega)
   have g5 : 4 ≤ ((x + 4 : Nat) : Int) := by omega
   have g6 : IntKind.i64.wrap (((x + 4 : Nat) : Int) - 4) = (x : Int) := by rw [IntKind.wrap_i64]; omega
   have g7 : 0 ≤ (x : Int) := by omega
   have g8 : (x : Int) < 4 := by omega
   have g9 : x < 4 := by omega
   clear e1 em hr hy h4 hlen
   generalize (R * 18446744073709551616 + w64 (high * B + low) (x + 4)) / m = q at *
   generalize hP : ((x + 4 : Nat) : Int) = P at *
   clear hP
   go_wp2_with (first | (refine' aGq hR ?_) | (go_at_call 229; refine (cd _).mono ?_; rintro e w ⟨rfl, hb⟩; replace hR := hR.call hb; clear hb))
   exact hK.out _ _ (xAf rfl rfl rfl) hR
 case he =>
  clear hR
  intro tm w ht hR K
  rw [rV_zero h0] at ht
  simp only [Int.natCast_zero, Int.zero_sub] at ht
  repeat (first | (obtain ⟨x, tm', e, ht'⟩ := xAc ht; clear ht; subst e; have ht := ht'; clear ht') | (obtain ⟨tm', e, ht'⟩ := xAa ht; clear ht; subst e; have ht := ht'; clear ht'))
  obtain rfl := xAe ht
  clear ht
  go_wp2_with (first | (refine' aFq hR ?_; clear hR; intro w hR) | (go_at_call 131; refine (xCw _ hlen _).mono ?_; rintro e w ⟨rfl, hb⟩; replace hR := hR.call hb; clear hb))
  (refine' bodyPost_ret (xAh Tryz.results234 rfl (hR.loadAll (P := Tryz.prog) (ty := 24) ?hm ?hn)) rfl ⟨?_, hR.below⟩; (case hm => first | with_reducible assumption | repeat (first | exact .head _ | apply mT)); (case hn => first | rfl | simp))
  rfl
theorem refWide_long (low high m : Nat) (hl : low < B) (hh : high < B) (hm : m < B) (hs : ¬ m < 18446744073709551616) (w : World) : Calls Tryz.prog 234 #[num low, num high, num m] w fun e w' =>
  e = .returned (.tuple #[num (widN low high m), .int .i64 0]) ∧ Below w.heap.size w w' := by
 have h0 : m ≠ 0 := by omega
 have z := xDq hm xEy h0
 have cw := xCj m hm
 rw [decide_eq_false hs] at cw
 have hR := Rep.init w
 go_enter Tryz.func234, Tryz.ntmps234
 go_wp2_with (first | (refine' aAq hR ?_; clear hR; intro blk w hR) | (refine' aBq hR ?_; clear hR; intro blk w hR) | (refine' aEq hR ?_) | (go_at_call 195; refine (cw _).mono ?_; rintro e w ⟨rfl, hb⟩; replace hR := hR.call hb; clear hb))
 clear cw z
 (first | (rename_i b6; change Nat at b6) | (rename_i b6 _; change Nat at b6) | (rename_i b6 _ _; change Nat at b6) | (rename_i b6 _ _ _; change Nat at b6) | (rename_i b6 _ _ _ _; change Nat at b6) | (rename_i b6 _ _ _ _ _; change Nat at b6) | (rename_i b6 _ _ _ _ _ _; change Nat at b6) | (rename_i b6 _ _ _ _ _ _ _; change Nat at b6) | (rename_i b6 _ _ _ _ _ _ _ _; change Nat at b6) | (rename_i b6 _ _ _ _ _ _ _ _ _; change Nat at b6) | (rename_i b6 _ _ _ _ _ _ _ _ _ _; change Nat at b6) | (rename_i b6 _ _ _ _ _ _ _ _ _ _ _; change Nat at b6) | (rename_i b6 _ _ _ _ _ _ _ _ _ _ _ _; change Nat at b6) | (rename_i b6 _ _ _ _ _ _ _ _ _ _ _ _ _; change Nat at b6))
 (first | (rename_i b5; change Nat at b5) | (rename_i b5 _; change Nat at b5) | (rename_i b5 _ _; change Nat at b5) | (rename_i b5 _ _ _; change Nat at b5) | (rename_i b5 _ _ _ _; change Nat at b5) | (rename_i b5 _ _ _ _ _; change Nat at b5) | (rename_i b5 _ _ _ _ _ _; change Nat at b5) | (rename_i b5 _ _ _ _ _ _ _; change Nat at b5) | (rename_i b5 _ _ _ _ _ _ _ _; change Nat at b5) | (rename_i b5 _ _ _ _ _ _ _ _ _; change Nat at b5) | (rename_i b5 _ _ _ _ _ _ _ _ _ _; change Nat at b5) | (rename_i b5 _ _ _ _ _ _ _ _ _ _ _; change Nat at b5) | (rename_i b5 _ _ _ _ _ _ _ _ _ _ _ _; change Nat at b5) | (rename_i b5 _ _ _ _ _ _ _ _ _ _ _ _ _; change Nat at b5))
 (first | (rename_i b4; change Nat at b4) | (rename_i b4 _; change Nat at b4) | (rename_i b4 _ _; change Nat at b4) | (rename_i b4 _ _ _; change Nat at b4) | (rename_i b4 _ _ _ _; change Nat at b4) | (rename_i b4 _ _ _ _ _; change Nat at b4) | (rename_i b4 _ _ _ _ _ _; change Nat at b4) | (rename_i b4 _ _ _ _ _ _ _; change Nat at b4) | (rename_i b4 _ _ _ _ _ _ _ _; change Nat at b4) | (rename_i b4 _ _ _ _ _ _ _ _ _; change Nat at b4) | (rename_i b4 _ _ _ _ _ _ _ _ _ _; change Nat at b4) | (rename_i b4 _ _ _ _ _ _ _ _ _ _ _; change Nat at b4) | (rename_i b4 _ _ _ _ _ _ _ _ _ _ _ _; change Nat at b4) | (rename_i b4 _ _ _ _ _ _ _ _ _ _ _ _ _; change Nat at b4))
 (first | (rename_i b3; change Nat at b3) | (rename_i b3 _; change Nat at b3) | (rename_i b3 _ _; change Nat at b3) | (rename_i b3 _ _ _; change Nat at b3) | (rename_i b3 _ _ _ _; change Nat at b3) | (rename_i b3 _ _ _ _ _; change Nat at b3) | (rename_i b3 _ _ _ _ _ _; change Nat at b3) | (rename_i b3 _ _ _ _ _ _ _; change Nat at b3) | (rename_i b3 _ _ _ _ _ _ _ _; change Nat at b3) | (rename_i b3 _ _ _ _ _ _ _ _ _; change Nat at b3) | (rename_i b3 _ _ _ _ _ _ _ _ _ _; change Nat at b3) | (rename_i b3 _ _ _ _ _ _ _ _ _ _ _; change Nat at b3) | (rename_i b3 _ _ _ _ _ _ _ _ _ _ _ _; change Nat at b3) | (rename_i b3 _ _ _ _ _ _ _ _ _ _ _ _ _; change Nat at b3))
 refine' xBm (false :: false :: false :: false :: false :: false :: false :: false :: false :: false :: false :: false :: false :: false :: false :: false :: false :: false :: false :: false :: false :: false :: false :: false :: false :: false :: false :: false :: false :: false :: false :: false :: false :: false :: false :: false :: false :: false :: false :: false :: false :: false :: false :: false :: true :: true :: true :: true :: true :: true :: true :: true :: true :: true :: false :: false :: false :: false :: false :: false :: false :: false :: false :: false :: false :: []) (fun j l => l.set 12 (.int .i64 ((j : Int) - 1))) (fun j => [(blk, .cells (nl (rW m 0 high j)).toArray 24), (b6, .cells (nl 0).toArray 24), (b5, .cells (nl m).toArray 24), (b4, .cells (nl high).toArray 24), (b3, .cells (nl low).toArray 24)]) 256 ?h0 ?hR ?hs ?he
 case hR =>
  show Rep _ _ ((_, .cells (nl (rW m 0 high 256)).toArray _) :: _) _
  rw [rW_top (by omega) (by assumption), ← xDf]
  exact hR
 case h0 => exact xAf rfl rfl rfl
 case hs =>
  clear hR
  intro j tm w hj ht hR K hK
  repeat (first | (obtain ⟨x, tm', e, ht'⟩ := xAc ht; clear ht; subst e; have ht := ht'; clear ht') | (obtain ⟨tm', e, ht'⟩ := xAa ht; clear ht; subst e; have ht := ht'; clear ht'))
  obtain rfl := xAe ht
  clear ht
  obtain ⟨bit, S, hbit, ebit, er, eS⟩ := xGk m 0 high j h0 hj
  have hRb := rW_lt h0 0 high (j + 1)
  have cbit := fun w => xEl high (j : Int) (by assumption) w
  rw [xDj high j (by omega), ebit] at cbit
  have cnext := fun w => xIl _ bit m hRb hm hbit w
  rw [er] at cnext
  clear ebit hRb er eS hbit
  generalize rW m 0 high (j + 1) = R at *
  have e1 : ((j + 1 : Nat) : Int) - 1 = (j : Int) := by omega
  rw [e1]
  have kj0 : 0 ≤ (j : Int) := by omega
  have kj1 : (j : Int) < 256 := by omega
  clear e1
  go_wp2_with (fail)
  refine xAd hR [0, 0, 0, 0, 0, 0, 2] [] xBd (by kernel_rfl) rfl rfl (fun K hK => ?_)
  clear hR
  repeat ((first | (refine xAp ?_) | (refine' xAj (by decide) rfl (.inl rfl) rfl ?ha ?_) | (refine' aIq ?ha ?_) | (refine' xAk rfl rfl rfl (xAi Tryz.func197 (by kernel_rfl) (by kernel_rfl) _) (fun w => cbit w) ?ha ?_) | (refine' xAk rfl rfl rfl (xAi Tryz.func240 (by kernel_rfl) (by kernel_rfl) _) (fun w => cnext w) ?ha ?_)); try (case ha => simp only [kP, kQ, kA, kB]; try rfl))
  refine xAo (hK _ _ ?_)
  clear hK K
  refine xAr (fun Q hQ => ?_)
  try simp only [List.nil_append, List.cons_append]
  repeat ((refine' aKq ?hk ?ha ?_); (case hk => intro p hp; first | exact absurd hp List.not_mem_nil | (obtain rfl := List.mem_singleton.1 hp; repeat (first | exact List.Mem.head _ | apply mT))); (case ha => simp only [kP, kQ, kA, kB]; try rfl))
  refine xAs (fun w hR => hQ _ _ ?_)
  clear hQ Q
  go_wp2_with (fail)
  exact hK.out _ _ (xAf rfl rfl rfl) hR
 case he =>
  clear hR
  intro tm w ht hR K
  simp only [Int.natCast_zero, Int.zero_sub] at ht
  repeat (first | (obtain ⟨x, tm', e, ht'⟩ := xAc ht; clear ht; subst e; have ht := ht'; clear ht') | (obtain ⟨tm', e, ht'⟩ := xAa ht; clear ht; subst e; have ht := ht'; clear ht'))
  obtain rfl := xAe ht
  clear ht
  rw [rW_zero] at hR
  rw [Nat.zero_mul, Nat.zero_add] at hR
  have r1 : high % m < m := Nat.mod_lt _ (by omega)
  go_wp2_with (fail)
  refine' xBm (false :: false :: false :: false :: false :: false :: false :: false :: false :: false :: false :: false :: false :: false :: false :: false :: false :: false :: false :: false :: false :: false :: false :: false :: false :: false :: false :: false :: false :: false :: false :: false :: false :: false :: false :: false :: false :: false :: false :: false :: false :: false :: false :: false :: false :: false :: false :: false :: false :: false :: false :: false :: false :: false :: true :: true :: true :: true :: true :: true :: true :: true :: true :: true :: false :: []) (fun j l => l.set 13 (.int .i64 ((j : Int) - 1))) (fun j => [(blk, .cells (nl (rW m (high % m) low j)).toArray 24), (b6, .cells (nl 0).toArray 24), (b5, .cells (nl m).toArray 24), (b4, .cells (nl high).toArray 24), (b3, .cells (nl low).toArray 24)]) 256 ?h02 ?hR2 ?hs2 ?he2
  case hR2 =>
   show Rep _ _ ((_, .cells (nl (rW m (high % m) low 256)).toArray _) :: _) _
   rw [rW_top (by omega) (by assumption)]
   exact hR
  case h02 => exact xAf rfl rfl rfl
  case hs2 =>
   clear hR
   intro j tm w hj ht hR K hK
   repeat (first | (obtain ⟨x, tm', e, ht'⟩ := xAc ht; clear ht; subst e; have ht := ht'; clear ht') | (obtain ⟨tm', e, ht'⟩ := xAa ht; clear ht; subst e; have ht := ht'; clear ht'))
   obtain rfl := xAe ht
   clear ht
   obtain ⟨bit, S, hbit, ebit, er, eS⟩ := xGk m (high % m) low j h0 hj
   have hRb := rW_lt h0 (high % m) low (j + 1)
   have cbit := fun w => xEl low (j : Int) (by assumption) w
   rw [xDj low j (by omega), ebit] at cbit
   have cnext := fun w => xIl _ bit m hRb hm hbit w
   rw [er] at cnext
   clear ebit hRb er eS hbit
   generalize rW m (high % m) low (j + 1) = R at *
   have e1 : ((j + 1 : Nat) : Int) - 1 = (j : Int) := by omega
   rw [e1]
   have kj0 : 0 ≤ (j : Int) := by omega
   have kj1 : (j : Int) < 256 := by omega
   clear e1
   go_wp2_with (fail)
   refine xAd hR [0, 0, 0, 0, 0, 0, 2] [] xBd (by kernel_rfl) rfl rfl (fun K hK => ?_)
   clear hR
   repeat ((first | (refine xAp ?_) | (refine' xAj (by decide) rfl (.inl rfl) rfl ?ha ?_) | (refine' aIq ?ha ?_) | (refine' xAk rfl rfl rfl (xAi Tryz.func197 (by kernel_rfl) (by kernel_rfl) _) (fun w => cbit w) ?ha ?_) | (refine' xAk rfl rfl rfl (xAi Tryz.func240 (by kernel_rfl) (by kernel_rfl) _) (fun w => cnext w) ?ha ?_)); try (case ha => simp only [kP, kQ, kA, kB]; try rfl))
   refine xAo (hK _ _ ?_)
   clear hK K
   refine xAr (fun Q hQ => ?_)
   try simp only [List.nil_append, List.cons_append]
   repeat ((refine' aKq ?hk ?ha ?_); (case hk => intro p hp; first | exact absurd hp List.not_mem_nil | (obtain rfl := List.mem_singleton.1 hp; repeat (first | exact List.Mem.head _ | apply mT))); (case ha => simp only [kP, kQ, kA, kB]; try rfl))
   refine xAs (fun w hR => hQ _ _ ?_)
   clear hQ Q
   go_wp2_with (fail)
   exact hK.out _ _ (xAf rfl rfl rfl) hR
  case he2 =>
   clear hR
   intro tm w ht hR K
   simp only [Int.natCast_zero, Int.zero_sub] at ht
   repeat (first | (obtain ⟨x, tm', e, ht'⟩ := xAc ht; clear ht; subst e; have ht := ht'; clear ht') | (obtain ⟨tm', e, ht'⟩ := xAa ht; clear ht; subst e; have ht := ht'; clear ht'))
   obtain rfl := xAe ht
   clear ht
   rw [rW_zero, wide_fin h0] at hR
   go_wp2_with (first | (refine' aEq hR ?_) | (refine' aFq hR ?_; clear hR; intro w hR))
   (refine' bodyPost_ret (xAh Tryz.results234 rfl (hR.loadAll (P := Tryz.prog) (ty := 24) ?hm ?hn)) rfl ⟨?_, hR.below⟩; (case hm => first | with_reducible assumption | repeat (first | exact .head _ | apply mT)); (case hn => first | rfl | simp))
   rfl
theorem refWide_none (low high : Nat) (w : World) : Calls Tryz.prog 234 #[num low, num high, num 0] w fun e w' =>
  e = .returned (.tuple #[num 0, .int .i64 1]) ∧ Below w.heap.size w w' := by
 have z := xDm 0
 have hR := Rep.init w
 go_enter Tryz.func234, Tryz.ntmps234
 go_wp2_with (first | (refine' aAq hR ?_; clear hR; intro blk w hR) | (refine' aBq hR ?_; clear hR; intro blk w hR) | (refine' aEq hR ?_) | (refine' aFq hR ?_; clear hR; intro w hR))
 (refine' bodyPost_ret (xAh Tryz.results234 rfl (hR.loadAll (P := Tryz.prog) (ty := 24) ?hm ?hn)) rfl ⟨?_, hR.below⟩; (case hm => first | with_reducible assumption | repeat (first | exact .head _ | apply mT)); (case hn => first | rfl | simp))
 rw [xBe]
 rfl
theorem refWide_any (low high m : Nat) (hl : low < B) (hh : high < B) (hm : m < B) (w : World) : Calls Tryz.prog 234 #[num low, num high, num m] w fun e w' =>
  e = .returned (.tuple #[num (widN low high m), .int .i64 (if m = 0 then 1 else 0)]) ∧ Below w.heap.size w w' := by
 by_cases h : m = 0
 ·subst h
  rw [if_pos rfl, xFn, if_pos rfl]
  exact refWide_none low high w
 ·rw [if_neg h]
  by_cases hs : m < 18446744073709551616
  ·exact refWide_short low high m hl hh h hs w
  ·exact refWide_long low high m hl hh hm hs w
end Go.Proofs.YtaaahfjpnggkbaaGreatDoor
