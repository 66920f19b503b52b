/- The contract of balefireref03.Wide. -/
import Derived.Test.YthbcgcncoggagaaKT
import Derived.Test.YthbcgcncoggagaaKF
import Derived.Test.YthbcgcncoggagaaKJ
set_option linter.unusedVariables false
set_option linter.unusedSimpArgs false
namespace Go.Proofs.Ythbcgcncoggagaa
open Go.RowKit
attribute [local irreducible] Calls
noncomputable def rV : Nat → Nat → Nat → Nat := opq fun m T j => T / 18446744073709551616 ^ j % m
theorem rV_def (m T j : Nat) : rV m T j = T / 18446744073709551616 ^ j % m := by unfold rV; rw [xCb]
theorem rV_lt {m : Nat} (h : m ≠ 0) (T j : Nat) : rV m T j < m := by rw [rV_def]; exact Nat.mod_lt _ (by omega)
theorem rV_round (m T j : Nat) : (rV m T (j + 1) * 18446744073709551616 + w64 T j) % m = rV m T j := by
  rw [rV_def, rV_def]
  unfold w64
  have e : T / 18446744073709551616 ^ j = T / 18446744073709551616 ^ (j + 1) * 18446744073709551616 + T / 18446744073709551616 ^ j % 18446744073709551616 := by
    rw [Nat.pow_succ, ← Nat.div_div_eq_div_mul]; omega
  conv => rhs; rw [e]
  rw [Nat.add_mod, Nat.mul_mod, Nat.mod_mod, ← Nat.mul_mod, ← Nat.add_mod]
theorem B_4 : B = 18446744073709551616 ^ 4 := by rw [B_eq]
theorem w64_low (low high j : Nat) (h : j < 4) (hl : low < B) : w64 (high * B + low) j = w64 low j := by
  unfold w64
  obtain ⟨k, hk⟩ : ∃ k, 4 = j + (1 + k) := ⟨3 - j, by omega⟩
  rw [B_4, hk, Nat.pow_add, Nat.mul_comm high, Nat.mul_assoc, Nat.mul_add_div (Nat.pow_pos (by decide)), Nat.pow_add, Nat.pow_one, Nat.mul_assoc, Nat.mul_add_mod]
theorem w64_high (low high j : Nat) (hl : low < B) : w64 (high * B + low) (j + 4) = w64 high j := by
  unfold w64
  rw [Nat.pow_add, Nat.mul_comm (_ ^ j), ← Nat.div_div_eq_div_mul, ← B_4, Nat.mul_comm high, Nat.mul_add_div B_pos, Nat.div_eq_of_lt hl, Nat.add_zero]
theorem rV_top {m low high : Nat} (hl : low < B) (hh : high < B) : rV m (high * B + low) 8 = 0 := by
  rw [rV_def, show (18446744073709551616 : Nat) ^ 8 = 18446744073709551616 ^ 4 * 18446744073709551616 ^ 4 by decide, ← B_4, Nat.div_eq_of_lt, Nat.zero_mod]
  have : (high + 1) * B ≤ B * B := Nat.mul_le_mul_right _ hh
  rw [Nat.add_mul, Nat.one_mul] at this
  omega
theorem rV_zero {m low high : Nat} (h0 : m ≠ 0) : rV m (high * B + low) 0 = widN low high m := by
  rw [rV_def, Nat.pow_zero, Nat.div_one, widN_def, if_neg h0]
set_option maxRecDepth 100000 in
set_option maxHeartbeats 4000000 in
theorem refWide_short (low high m : Nat) (hl : low < B) (hh : high < B) (h0 : m ≠ 0) (hs : m < 18446744073709551616) (w : World) : Calls Try.prog 64 #[num low, num high, num m] w fun e w' =>
    e = .returned (.tuple #[num (widN low high m), .int .i64 0]) ∧ Below w.heap.size w w' := by
  have hm : m < B := lt_B hs
  have z := eqN_no hm B_pos h0
  have cw := refWord_any m hm
  rw [decide_eq_true hs] at cw
  have hR := Rep.init w
  have hlen : widN low high m < 18446744073709551616 := by rw [← rV_zero h0]; exact Nat.lt_trans (rV_lt h0 _ _) hs
  go_enter Try.func64, Try.ntmps64
  go_wp2_with (first | (refine' xAg hR rfl rfl rfl ?_; clear hR; intro blk w hR) | (refine' xAb hR rfl rfl inferInstance ?_; clear hR; intro blk w hR) | (refine' xAf hR rfl rfl rfl inferInstance ?hm ?hn ?_; (case hm => first | with_reducible assumption | repeat (first | exact .head _ | apply mT)); (case hn => first | rfl | simp)) | (refine' xAe hR rfl rfl rfl inferInstance ?hm ?hv ?hn ?_; (case hm => first | with_reducible assumption | repeat (first | exact .head _ | apply mT)); (case hv => first | with_reducible assumption | (simp only [kC, kD, kE, kF]; try rfl)); (case hn => first | rfl | simp)) | (refine' xAc hR rfl rfl rfl inferInstance ?hm ?hv ?_; (case hm => first | with_reducible assumption | repeat (first | exact .head _ | apply mT)); (case hv => first | rfl | with_reducible assumption)) | (refine' xAd hR rfl rfl rfl inferInstance rfl ?hs ?zone ?zvn ?hn ?_; (case hs => repeat (first | exact xAh.head | apply xAh.tail)); (case zone => first | rfl | with_reducible assumption); (case zvn => first | rfl | simp); (case hn => first | rfl | simp); clear hR; intro w hR) | (refine' xAa hR rfl rfl rfl inferInstance rfl rfl ?hs ?hn ?hl ?_; (case hs => repeat (first | exact xAh.head | apply xAh.tail)); (case hn => first | exact oD rfl | (show _ < 4; with_reducible assumption) | (simp; try omega)); (case hl => first | with_reducible assumption | (simp only [nl, kA, kB]; first | done | rfl) | rfl); clear hR; intro w hR) | (go_at_call 120; refine (cw _).mono ?_; rintro e w ⟨rfl, hb⟩; replace hR := hR.call hb; clear hb))
  clear cw z
  rename_i b3 _ b4 _ b5 _ _ _ _ _ _
  refine' loop_rep (false :: false :: false :: false :: false :: false :: false :: false :: false :: false :: true :: false :: false :: false :: false :: false :: false :: false :: false :: false :: true :: true :: true :: true :: true :: true :: true :: true :: true :: true :: true :: true :: true :: true :: true :: true :: true :: true :: true :: true :: true :: true :: false :: false :: false :: false :: false :: false :: false :: false :: false :: false :: false :: false :: false :: false :: false :: false :: false :: false :: false :: false :: false :: false :: false :: []) (fun j l => (l.set 8 (.int .u64 ((rV m (high * B + low) j : Nat) : Int))).set 9 (.int .i64 ((j : Int) - 1))) (fun j => [(blk, .cells (nl 0).toArray 24), (b5, .cells (nl m).toArray 24), (b4, .cells (nl high).toArray 24), (b3, .cells (nl low).toArray 24)]) 8 ?h0 ?hR ?hs ?he
  case hR =>
    rw [← nl_zero]
    exact hR
  case h0 =>
    simp only [rV_top hl hh]
    exact xBq rfl rfl rfl
  case hs =>
    clear hR
    intro j tm w hj ht hR K hK
    repeat (first | (obtain ⟨x, tm', e, ht'⟩ := xBk ht; clear ht; subst e; have ht := ht'; clear ht') | (obtain ⟨tm', e, ht'⟩ := xBc ht; clear ht; subst e; have ht := ht'; clear ht'))
    obtain rfl := xBm ht
    clear ht
    have e1 : ((j + 1 : Nat) : Int) - 1 = (j : Int) := by omega
    rw [e1]
    have hr := rV_lt h0 (high * B + low) (j + 1)
    have cd := fun w => div64_any _ _ m hr hs (w64_lt (high * B + low) j) w
    rw [rV_round] at cd
    have em : wd m 0 = (m : Int) := by rw [wd_eq]; unfold w64; omega
    rw [← em] at cd
    generalize rV m (high * B + low) (j + 1) = R at *
    generalize rV m (high * B + low) j = R' at *
    have hv := nl_at low (j % 4) (by omega)
    obtain ⟨y, hy⟩ : ∃ y, j % 4 = y := ⟨_, rfl⟩
    rw [hy] at hv
    have e3 : (j : Int).tmod 4 = (y : Int) := by rw [Int.tmod_eq_emod_of_nonneg (by omega)]; omega
    have e4 : (j : Int) % 4 = (y : Int) := by omega
    have e5 : IntKind.i64.wrap (y : Int) = (y : Int) := by rw [IntKind.wrap_i64]; omega
    have g0 : 0 ≤ (j : Int) := by omega
    have g1 : (j : Int) < 8 := by omega
    have g2 : 0 ≤ (y : Int) := by omega
    have g3 : (y : Int) < 4 := by omega
    have g4 : y < 4 := by omega
    by_cases h4 : j < 4
    · rw [w64_low low high j h4 hl, ← wd_eq] at cd
      have ej : j = y := by omega
      rw [ej] at cd
      have g5 : ¬ 4 ≤ (j : Int) := by omega
      clear e1 em hr hy ej h4 hlen
      generalize (R * 18446744073709551616 + w64 (high * B + low) j) / m = q at *
      go_wp2_with (first | (refine' xAg hR rfl rfl rfl ?_; clear hR; intro blk w hR) | (refine' xAb hR rfl rfl inferInstance ?_; clear hR; intro blk w hR) | (refine' xAf hR rfl rfl rfl inferInstance ?hm ?hn ?_; (case hm => first | with_reducible assumption | repeat (first | exact .head _ | apply mT)); (case hn => first | rfl | simp)) | (refine' xAe hR rfl rfl rfl inferInstance ?hm ?hv ?hn ?_; (case hm => first | with_reducible assumption | repeat (first | exact .head _ | apply mT)); (case hv => first | with_reducible assumption | (simp only [kC, kD, kE, kF]; try rfl)); (case hn => first | rfl | simp)) | (refine' xAc hR rfl rfl rfl inferInstance ?hm ?hv ?_; (case hm => first | with_reducible assumption | repeat (first | exact .head _ | apply mT)); (case hv => first | rfl | with_reducible assumption)) | (refine' xAd hR rfl rfl rfl inferInstance rfl ?hs ?zone ?zvn ?hn ?_; (case hs => repeat (first | exact xAh.head | apply xAh.tail)); (case zone => first | rfl | with_reducible assumption); (case zvn => first | rfl | simp); (case hn => first | rfl | simp); clear hR; intro w hR) | (refine' xAa hR rfl rfl rfl inferInstance rfl rfl ?hs ?hn ?hl ?_; (case hs => repeat (first | exact xAh.head | apply xAh.tail)); (case hn => first | exact oD rfl | (show _ < 4; with_reducible assumption) | (simp; try omega)); (case hl => first | with_reducible assumption | (simp only [nl, kA, kB]; first | done | rfl) | rfl); clear hR; intro w hR) | (go_at_call 85; refine (cd _).mono ?_; rintro e w ⟨rfl, hb⟩; replace hR := hR.call hb; clear hb))
      exact hK.out _ _ (xBq rfl rfl rfl) hR
    · obtain ⟨x, rfl⟩ : ∃ x, j = x + 4 := ⟨j - 4, by omega⟩
      rw [w64_high low high x hl, ← wd_eq] at cd
      have hv2 := nl_at high x (by omega)
      have g5 : 4 ≤ ((x + 4 : Nat) : Int) := by omega
      have g6 : IntKind.i64.wrap (((x + 4 : Nat) : Int) - 4) = (x : Int) := by rw [IntKind.wrap_i64]; omega
      have g7 : 0 ≤ (x : Int) := by omega
      have g8 : (x : Int) < 4 := by omega
      have g9 : x < 4 := by omega
      clear e1 em hr hy h4 hlen
      generalize (R * 18446744073709551616 + w64 (high * B + low) (x + 4)) / m = q at *
      generalize hP : ((x + 4 : Nat) : Int) = P at *
      clear hP
      go_wp2_with (first | (refine' xAg hR rfl rfl rfl ?_; clear hR; intro blk w hR) | (refine' xAb hR rfl rfl inferInstance ?_; clear hR; intro blk w hR) | (refine' xAf hR rfl rfl rfl inferInstance ?hm ?hn ?_; (case hm => first | with_reducible assumption | repeat (first | exact .head _ | apply mT)); (case hn => first | rfl | simp)) | (refine' xAe hR rfl rfl rfl inferInstance ?hm ?hv ?hn ?_; (case hm => first | with_reducible assumption | repeat (first | exact .head _ | apply mT)); (case hv => first | with_reducible assumption | (simp only [kC, kD, kE, kF]; try rfl)); (case hn => first | rfl | simp)) | (refine' xAc hR rfl rfl rfl inferInstance ?hm ?hv ?_; (case hm => first | with_reducible assumption | repeat (first | exact .head _ | apply mT)); (case hv => first | rfl | with_reducible assumption)) | (refine' xAd hR rfl rfl rfl inferInstance rfl ?hs ?zone ?zvn ?hn ?_; (case hs => repeat (first | exact xAh.head | apply xAh.tail)); (case zone => first | rfl | with_reducible assumption); (case zvn => first | rfl | simp); (case hn => first | rfl | simp); clear hR; intro w hR) | (refine' xAa hR rfl rfl rfl inferInstance rfl rfl ?hs ?hn ?hl ?_; (case hs => repeat (first | exact xAh.head | apply xAh.tail)); (case hn => first | exact oD rfl | (show _ < 4; with_reducible assumption) | (simp; try omega)); (case hl => first | with_reducible assumption | (simp only [nl, kA, kB]; first | done | rfl) | rfl); clear hR; intro w hR) | (go_at_call 85; refine (cd _).mono ?_; rintro e w ⟨rfl, hb⟩; replace hR := hR.call hb; clear hb))
      exact hK.out _ _ (xBq rfl rfl rfl) hR
  case he =>
    clear hR
    intro tm w ht hR K
    rw [rV_zero h0] at ht
    simp only [Int.natCast_zero, Int.zero_sub] at ht
    repeat (first | (obtain ⟨x, tm', e, ht'⟩ := xBk ht; clear ht; subst e; have ht := ht'; clear ht') | (obtain ⟨tm', e, ht'⟩ := xBc ht; clear ht; subst e; have ht := ht'; clear ht'))
    obtain rfl := xBm ht
    clear ht
    go_wp2_with (first | (refine' xAg hR rfl rfl rfl ?_; clear hR; intro blk w hR) | (refine' xAb hR rfl rfl inferInstance ?_; clear hR; intro blk w hR) | (refine' xAf hR rfl rfl rfl inferInstance ?hm ?hn ?_; (case hm => first | with_reducible assumption | repeat (first | exact .head _ | apply mT)); (case hn => first | rfl | simp)) | (refine' xAe hR rfl rfl rfl inferInstance ?hm ?hv ?hn ?_; (case hm => first | with_reducible assumption | repeat (first | exact .head _ | apply mT)); (case hv => first | with_reducible assumption | (simp only [kC, kD, kE, kF]; try rfl)); (case hn => first | rfl | simp)) | (refine' xAc hR rfl rfl rfl inferInstance ?hm ?hv ?_; (case hm => first | with_reducible assumption | repeat (first | exact .head _ | apply mT)); (case hv => first | rfl | with_reducible assumption)) | (refine' xAd hR rfl rfl rfl inferInstance rfl ?hs ?zone ?zvn ?hn ?_; (case hs => repeat (first | exact xAh.head | apply xAh.tail)); (case zone => first | rfl | with_reducible assumption); (case zvn => first | rfl | simp); (case hn => first | rfl | simp); clear hR; intro w hR) | (refine' xAa hR rfl rfl rfl inferInstance rfl rfl ?hs ?hn ?hl ?_; (case hs => repeat (first | exact xAh.head | apply xAh.tail)); (case hn => first | exact oD rfl | (show _ < 4; with_reducible assumption) | (simp; try omega)); (case hl => first | with_reducible assumption | (simp only [nl, kA, kB]; first | done | rfl) | rfl); clear hR; intro w hR) | (go_at_call 121; refine (refOf_any _ hlen _).mono ?_; rintro e w ⟨rfl, hb⟩; replace hR := hR.call hb; clear hb))
    (refine' bodyPost_ret (xBr Try.results64 rfl (hR.loadAll (P := Try.prog) (ty := 24) ?hm ?hn)) rfl ⟨?_, hR.below⟩; (case hm => first | with_reducible assumption | repeat (first | exact .head _ | apply mT)); (case hn => first | rfl | simp))
    rfl
set_option maxRecDepth 100000 in
set_option maxHeartbeats 4000000 in
theorem refWide_long (low high m : Nat) (hl : low < B) (hh : high < B) (hm : m < B) (hs : ¬ m < 18446744073709551616) (w : World) : Calls Try.prog 64 #[num low, num high, num m] w fun e w' =>
    e = .returned (.tuple #[num (widN low high m), .int .i64 0]) ∧ Below w.heap.size w w' := by
  have h0 : m ≠ 0 := by omega
  have z := eqN_no hm B_pos h0
  have cw := refWord_any m hm
  rw [decide_eq_false hs] at cw
  have hR := Rep.init w
  go_enter Try.func64, Try.ntmps64
  go_wp2_with (first | (refine' xAg hR rfl rfl rfl ?_; clear hR; intro blk w hR) | (refine' xAb hR rfl rfl inferInstance ?_; clear hR; intro blk w hR) | (refine' xAf hR rfl rfl rfl inferInstance ?hm ?hn ?_; (case hm => first | with_reducible assumption | repeat (first | exact .head _ | apply mT)); (case hn => first | rfl | simp)) | (refine' xAe hR rfl rfl rfl inferInstance ?hm ?hv ?hn ?_; (case hm => first | with_reducible assumption | repeat (first | exact .head _ | apply mT)); (case hv => first | with_reducible assumption | (simp only [kC, kD, kE, kF]; try rfl)); (case hn => first | rfl | simp)) | (refine' xAc hR rfl rfl rfl inferInstance ?hm ?hv ?_; (case hm => first | with_reducible assumption | repeat (first | exact .head _ | apply mT)); (case hv => first | rfl | with_reducible assumption)) | (refine' xAd hR rfl rfl rfl inferInstance rfl ?hs ?zone ?zvn ?hn ?_; (case hs => repeat (first | exact xAh.head | apply xAh.tail)); (case zone => first | rfl | with_reducible assumption); (case zvn => first | rfl | simp); (case hn => first | rfl | simp); clear hR; intro w hR) | (refine' xAa hR rfl rfl rfl inferInstance rfl rfl ?hs ?hn ?hl ?_; (case hs => repeat (first | exact xAh.head | apply xAh.tail)); (case hn => first | exact oD rfl | (show _ < 4; with_reducible assumption) | (simp; try omega)); (case hl => first | with_reducible assumption | (simp only [nl, kA, kB]; first | done | rfl) | rfl); clear hR; intro w hR) | (go_at_call 120; refine (cw _).mono ?_; rintro e w ⟨rfl, hb⟩; replace hR := hR.call hb; clear hb))
  clear cw z
  (first | (rename_i b6; change Nat at b6) | (rename_i b6 _; change Nat at b6) | (rename_i b6 _ _; change Nat at b6) | (rename_i b6 _ _ _; change Nat at b6) | (rename_i b6 _ _ _ _; change Nat at b6) | (rename_i b6 _ _ _ _ _; change Nat at b6) | (rename_i b6 _ _ _ _ _ _; change Nat at b6) | (rename_i b6 _ _ _ _ _ _ _; change Nat at b6) | (rename_i b6 _ _ _ _ _ _ _ _; change Nat at b6) | (rename_i b6 _ _ _ _ _ _ _ _ _; change Nat at b6) | (rename_i b6 _ _ _ _ _ _ _ _ _ _; change Nat at b6) | (rename_i b6 _ _ _ _ _ _ _ _ _ _ _; change Nat at b6) | (rename_i b6 _ _ _ _ _ _ _ _ _ _ _ _; change Nat at b6) | (rename_i b6 _ _ _ _ _ _ _ _ _ _ _ _ _; change Nat at b6))
  (first | (rename_i b5; change Nat at b5) | (rename_i b5 _; change Nat at b5) | (rename_i b5 _ _; change Nat at b5) | (rename_i b5 _ _ _; change Nat at b5) | (rename_i b5 _ _ _ _; change Nat at b5) | (rename_i b5 _ _ _ _ _; change Nat at b5) | (rename_i b5 _ _ _ _ _ _; change Nat at b5) | (rename_i b5 _ _ _ _ _ _ _; change Nat at b5) | (rename_i b5 _ _ _ _ _ _ _ _; change Nat at b5) | (rename_i b5 _ _ _ _ _ _ _ _ _; change Nat at b5) | (rename_i b5 _ _ _ _ _ _ _ _ _ _; change Nat at b5) | (rename_i b5 _ _ _ _ _ _ _ _ _ _ _; change Nat at b5) | (rename_i b5 _ _ _ _ _ _ _ _ _ _ _ _; change Nat at b5) | (rename_i b5 _ _ _ _ _ _ _ _ _ _ _ _ _; change Nat at b5))
  (first | (rename_i b4; change Nat at b4) | (rename_i b4 _; change Nat at b4) | (rename_i b4 _ _; change Nat at b4) | (rename_i b4 _ _ _; change Nat at b4) | (rename_i b4 _ _ _ _; change Nat at b4) | (rename_i b4 _ _ _ _ _; change Nat at b4) | (rename_i b4 _ _ _ _ _ _; change Nat at b4) | (rename_i b4 _ _ _ _ _ _ _; change Nat at b4) | (rename_i b4 _ _ _ _ _ _ _ _; change Nat at b4) | (rename_i b4 _ _ _ _ _ _ _ _ _; change Nat at b4) | (rename_i b4 _ _ _ _ _ _ _ _ _ _; change Nat at b4) | (rename_i b4 _ _ _ _ _ _ _ _ _ _ _; change Nat at b4) | (rename_i b4 _ _ _ _ _ _ _ _ _ _ _ _; change Nat at b4) | (rename_i b4 _ _ _ _ _ _ _ _ _ _ _ _ _; change Nat at b4))
  (first | (rename_i b3; change Nat at b3) | (rename_i b3 _; change Nat at b3) | (rename_i b3 _ _; change Nat at b3) | (rename_i b3 _ _ _; change Nat at b3) | (rename_i b3 _ _ _ _; change Nat at b3) | (rename_i b3 _ _ _ _ _; change Nat at b3) | (rename_i b3 _ _ _ _ _ _; change Nat at b3) | (rename_i b3 _ _ _ _ _ _ _; change Nat at b3) | (rename_i b3 _ _ _ _ _ _ _ _; change Nat at b3) | (rename_i b3 _ _ _ _ _ _ _ _ _; change Nat at b3) | (rename_i b3 _ _ _ _ _ _ _ _ _ _; change Nat at b3) | (rename_i b3 _ _ _ _ _ _ _ _ _ _ _; change Nat at b3) | (rename_i b3 _ _ _ _ _ _ _ _ _ _ _ _; change Nat at b3) | (rename_i b3 _ _ _ _ _ _ _ _ _ _ _ _ _; change Nat at b3))
  refine' loop_rep (false :: false :: false :: false :: false :: false :: false :: false :: false :: false :: false :: false :: false :: false :: false :: false :: false :: false :: false :: false :: false :: false :: false :: false :: false :: false :: false :: false :: false :: false :: false :: false :: false :: false :: false :: false :: false :: false :: false :: false :: false :: false :: false :: false :: true :: true :: true :: true :: true :: true :: true :: true :: true :: true :: false :: false :: false :: false :: false :: false :: false :: false :: false :: false :: false :: []) (fun j l => l.set 12 (.int .i64 ((j : Int) - 1))) (fun j => [(blk, .cells (nl (rW m 0 high j)).toArray 24), (b6, .cells (nl 0).toArray 24), (b5, .cells (nl m).toArray 24), (b4, .cells (nl high).toArray 24), (b3, .cells (nl low).toArray 24)]) 256 ?h0 ?hR ?hs ?he
  case hR =>
    show Rep _ _ ((_, .cells (nl (rW m 0 high 256)).toArray _) :: _) _
    rw [rW_top (by omega) (by assumption), ← nl_zero]
    exact hR
  case h0 => exact xBq rfl rfl rfl
  case hs =>
    clear hR
    intro j tm w hj ht hR K hK
    repeat (first | (obtain ⟨x, tm', e, ht'⟩ := xBk ht; clear ht; subst e; have ht := ht'; clear ht') | (obtain ⟨tm', e, ht'⟩ := xBc ht; clear ht; subst e; have ht := ht'; clear ht'))
    obtain rfl := xBm ht
    clear ht
    obtain ⟨bit, S, hbit, ebit, er, eS⟩ := wide_round m 0 high j h0 hj
    have hRb := rW_lt h0 0 high (j + 1)
    have cbit := fun w => refBit_any high (j : Int) (by assumption) w
    rw [bitN_nat high j (by omega), ebit] at cbit
    have cnext := fun w => refTwice_any _ bit m hRb hm hbit w
    rw [er] at cnext
    clear ebit hRb er eS hbit
    generalize rW m 0 high (j + 1) = R at *
    have e1 : ((j + 1 : Nat) : Int) - 1 = (j : Int) := by omega
    rw [e1]
    have kj0 : 0 ≤ (j : Int) := by omega
    have kj1 : (j : Int) < 256 := by omega
    clear e1
    go_wp2_with (first | (refine' xAg hR rfl rfl rfl ?_; clear hR; intro blk w hR) | (refine' xAb hR rfl rfl inferInstance ?_; clear hR; intro blk w hR) | (refine' xAf hR rfl rfl rfl inferInstance ?hm ?hn ?_; (case hm => first | with_reducible assumption | repeat (first | exact .head _ | apply mT)); (case hn => first | rfl | simp)) | (refine' xAe hR rfl rfl rfl inferInstance ?hm ?hv ?hn ?_; (case hm => first | with_reducible assumption | repeat (first | exact .head _ | apply mT)); (case hv => first | with_reducible assumption | (simp only [kC, kD, kE, kF]; try rfl)); (case hn => first | rfl | simp)) | (refine' xAc hR rfl rfl rfl inferInstance ?hm ?hv ?_; (case hm => first | with_reducible assumption | repeat (first | exact .head _ | apply mT)); (case hv => first | rfl | with_reducible assumption)) | (refine' xAd hR rfl rfl rfl inferInstance rfl ?hs ?zone ?zvn ?hn ?_; (case hs => repeat (first | exact xAh.head | apply xAh.tail)); (case zone => first | rfl | with_reducible assumption); (case zvn => first | rfl | simp); (case hn => first | rfl | simp); clear hR; intro w hR) | (refine' xAa hR rfl rfl rfl inferInstance rfl rfl ?hs ?hn ?hl ?_; (case hs => repeat (first | exact xAh.head | apply xAh.tail)); (case hn => first | exact oD rfl | (show _ < 4; with_reducible assumption) | (simp; try omega)); (case hl => first | with_reducible assumption | (simp only [nl, kA, kB]; first | done | rfl) | rfl); clear hR; intro w hR) | fail)
    refine xAl hR [0, 0, 0, 0, 0, 0, 2] [] xCe (by kernel_rfl) rfl rfl (fun K hK => ?_)
    clear hR
    repeat ((first | (refine xBp ?_) | (refine' xAx (by decide) rfl (.inl rfl) rfl ?ha ?_) | (refine' xAx (by decide) rfl (.inr rfl) rfl ?ha ?_) | (refine' xAv rfl rfl rfl inferInstance ?hm ?hn ?ha ?_; (case hm => first | with_reducible assumption | repeat (first | exact .head _ | apply mT)); (case hn => first | rfl | simp)) | (refine' xAs rfl rfl rfl inferInstance ?hm ?hv ?hn ?ha ?_; (case hm => first | with_reducible assumption | repeat (first | exact .head _ | apply mT)); (case hv => first | with_reducible assumption | (simp only [kC, kD, kE, kF]; try rfl)); (case hn => first | rfl | simp)) | (refine' xAo rfl rfl rfl inferInstance ?hm ?hv ?ha ?_; (case hm => first | with_reducible assumption | repeat (first | exact .head _ | apply mT)); (case hv => first | rfl | with_reducible assumption)) | (refine' xAr rfl rfl rfl inferInstance ?hm ?hv ?hn ?ha ?_; (case hm => first | with_reducible assumption | repeat (first | exact .head _ | apply mT)); (case hv => first | with_reducible assumption | (simp only [kC, kD, kE, kF]; try rfl)); (case hn => first | rfl | simp)) | (refine' xAq rfl rfl rfl inferInstance ?hm ?hv ?ha ?_; (case hm => first | with_reducible assumption | repeat (first | exact .head _ | apply mT)); (case hv => first | rfl | with_reducible assumption)) | ((first | refine' xAk (by decide) rfl rfl rfl rfl (fun w => ?hq) ?ha ?_ | refine' xBh (by decide) rfl rfl rfl rfl (fun w => ?hq) ?ha ?_ | refine' xAu (by decide) rfl rfl rfl (fun w => ?hq) ?ha ?_ | refine' xAj (by decide) rfl rfl rfl (fun w => ?hq) ?ha ?_ | refine' xAw (by decide) rfl rfl rfl (fun w => ?hq) ?ha ?_ | refine' xBg (by decide) rfl rfl rfl rfl (fun w => ?hq) ?ha ?_ | refine' xBe (by decide) rfl rfl rfl rfl rfl rfl (fun w => ?hq) ?ha ?_ | refine' xBd (by decide) rfl rfl (fun w => ?hq) ?ha ?_ | refine' xAt (by decide) rfl rfl rfl (fun w => ?hq) ?ha ?_ | refine' xBf (by decide) rfl rfl rfl (fun w => ?hq) ?ha ?_); (case hq => go_simp; try rfl)) | (refine' xAn (by decide) rfl rfl rfl ?ha ?_) | (refine' xBo (by decide) rfl rfl rfl rfl ?ha ?_) | (refine' xBn (by decide) rfl ?ha ?_) | (refine' xBb rfl rfl rfl (xBj Try.func123 (by kernel_rfl) (by kernel_rfl) _) (fun w => cbit w) ?ha ?_) | (refine' xBb rfl rfl rfl (xBj Try.func122 (by kernel_rfl) (by kernel_rfl) _) (fun w => cnext w) ?ha ?_)); try (case ha => simp only [kP, kQ, kA, kB]; try rfl))
    refine xBt (hK _ _ ?_)
    clear hK K
    refine xBv (fun Q hQ => ?_)
    try simp only [List.nil_append, List.cons_append]
    repeat ((first | refine' xAy rfl (.inl rfl) rfl ?hk ?ha ?_ | refine' xAy rfl (.inr rfl) rfl ?hk ?ha ?_ | (refine' xAp rfl rfl rfl inferInstance rfl ?hs rfl rfl ?hn ?hk ?ha ?_; (case hs => repeat (first | exact xAh.head | apply xAh.tail)); (case hn => first | rfl | simp)) | (refine' xAi rfl rfl rfl inferInstance rfl rfl ?hs ?hn ?hl ?hk ?ha ?_; (case hs => repeat (first | exact xAh.head | apply xAh.tail)); (case hn => first | exact oD rfl | (show _ < 4; with_reducible assumption) | (simp; try omega)); (case hl => first | with_reducible assumption | (simp only [nl, kA, kB]; first | done | rfl) | rfl)) | (refine' xAm rfl rfl rfl inferInstance rfl rfl ?hvn ?hs ?hn ?hl ?hk ?ha ?_; (case hvn => first | rfl | simp); (case hs => repeat (first | exact xAh.head | apply xAh.tail)); (case hn => first | exact oD rfl | (show _ < 4; with_reducible assumption) | (simp; try omega)); (case hl => first | with_reducible assumption | (simp only [nl, kA, kB]; first | done | rfl) | rfl)) | (refine' xBl rfl (fun w => ?hq) ?hk ?ha ?_; (case hq => go_simp; try rfl))); (case hk => intro p hp; first | exact absurd hp List.not_mem_nil | (obtain rfl := List.mem_singleton.1 hp; repeat (first | exact List.Mem.head _ | apply mT))); (case ha => simp only [kP, kQ, kA, kB]; try rfl))
    refine xBu (fun w hR => hQ _ _ ?_)
    clear hQ Q
    go_wp2_with (first | (refine' xAg hR rfl rfl rfl ?_; clear hR; intro blk w hR) | (refine' xAb hR rfl rfl inferInstance ?_; clear hR; intro blk w hR) | (refine' xAf hR rfl rfl rfl inferInstance ?hm ?hn ?_; (case hm => first | with_reducible assumption | repeat (first | exact .head _ | apply mT)); (case hn => first | rfl | simp)) | (refine' xAe hR rfl rfl rfl inferInstance ?hm ?hv ?hn ?_; (case hm => first | with_reducible assumption | repeat (first | exact .head _ | apply mT)); (case hv => first | with_reducible assumption | (simp only [kC, kD, kE, kF]; try rfl)); (case hn => first | rfl | simp)) | (refine' xAc hR rfl rfl rfl inferInstance ?hm ?hv ?_; (case hm => first | with_reducible assumption | repeat (first | exact .head _ | apply mT)); (case hv => first | rfl | with_reducible assumption)) | (refine' xAd hR rfl rfl rfl inferInstance rfl ?hs ?zone ?zvn ?hn ?_; (case hs => repeat (first | exact xAh.head | apply xAh.tail)); (case zone => first | rfl | with_reducible assumption); (case zvn => first | rfl | simp); (case hn => first | rfl | simp); clear hR; intro w hR) | (refine' xAa hR rfl rfl rfl inferInstance rfl rfl ?hs ?hn ?hl ?_; (case hs => repeat (first | exact xAh.head | apply xAh.tail)); (case hn => first | exact oD rfl | (show _ < 4; with_reducible assumption) | (simp; try omega)); (case hl => first | with_reducible assumption | (simp only [nl, kA, kB]; first | done | rfl) | rfl); clear hR; intro w hR) | fail)
    exact hK.out _ _ (xBq rfl rfl rfl) hR
  case he =>
    clear hR
    intro tm w ht hR K
    simp only [Int.natCast_zero, Int.zero_sub] at ht
    repeat (first | (obtain ⟨x, tm', e, ht'⟩ := xBk ht; clear ht; subst e; have ht := ht'; clear ht') | (obtain ⟨tm', e, ht'⟩ := xBc ht; clear ht; subst e; have ht := ht'; clear ht'))
    obtain rfl := xBm ht
    clear ht
    rw [rW_zero] at hR
    rw [Nat.zero_mul, Nat.zero_add] at hR
    have r1 : high % m < m := Nat.mod_lt _ (by omega)
    go_wp2_with (first | (refine' xAg hR rfl rfl rfl ?_; clear hR; intro blk w hR) | (refine' xAb hR rfl rfl inferInstance ?_; clear hR; intro blk w hR) | (refine' xAf hR rfl rfl rfl inferInstance ?hm ?hn ?_; (case hm => first | with_reducible assumption | repeat (first | exact .head _ | apply mT)); (case hn => first | rfl | simp)) | (refine' xAe hR rfl rfl rfl inferInstance ?hm ?hv ?hn ?_; (case hm => first | with_reducible assumption | repeat (first | exact .head _ | apply mT)); (case hv => first | with_reducible assumption | (simp only [kC, kD, kE, kF]; try rfl)); (case hn => first | rfl | simp)) | (refine' xAc hR rfl rfl rfl inferInstance ?hm ?hv ?_; (case hm => first | with_reducible assumption | repeat (first | exact .head _ | apply mT)); (case hv => first | rfl | with_reducible assumption)) | (refine' xAd hR rfl rfl rfl inferInstance rfl ?hs ?zone ?zvn ?hn ?_; (case hs => repeat (first | exact xAh.head | apply xAh.tail)); (case zone => first | rfl | with_reducible assumption); (case zvn => first | rfl | simp); (case hn => first | rfl | simp); clear hR; intro w hR) | (refine' xAa hR rfl rfl rfl inferInstance rfl rfl ?hs ?hn ?hl ?_; (case hs => repeat (first | exact xAh.head | apply xAh.tail)); (case hn => first | exact oD rfl | (show _ < 4; with_reducible assumption) | (simp; try omega)); (case hl => first | with_reducible assumption | (simp only [nl, kA, kB]; first | done | rfl) | rfl); clear hR; intro w hR) | fail)
    refine' loop_rep (false :: false :: false :: false :: false :: false :: false :: false :: false :: false :: false :: false :: false :: false :: false :: false :: false :: false :: false :: false :: false :: false :: false :: false :: false :: false :: false :: false :: false :: false :: false :: false :: false :: false :: false :: false :: false :: false :: false :: false :: false :: false :: false :: false :: false :: false :: false :: false :: false :: false :: false :: false :: false :: false :: true :: true :: true :: true :: true :: true :: true :: true :: true :: true :: false :: []) (fun j l => l.set 13 (.int .i64 ((j : Int) - 1))) (fun j => [(blk, .cells (nl (rW m (high % m) low j)).toArray 24), (b6, .cells (nl 0).toArray 24), (b5, .cells (nl m).toArray 24), (b4, .cells (nl high).toArray 24), (b3, .cells (nl low).toArray 24)]) 256 ?h02 ?hR2 ?hs2 ?he2
    case hR2 =>
      show Rep _ _ ((_, .cells (nl (rW m (high % m) low 256)).toArray _) :: _) _
      rw [rW_top (by omega) (by assumption)]
      exact hR
    case h02 => exact xBq rfl rfl rfl
    case hs2 =>
      clear hR
      intro j tm w hj ht hR K hK
      repeat (first | (obtain ⟨x, tm', e, ht'⟩ := xBk ht; clear ht; subst e; have ht := ht'; clear ht') | (obtain ⟨tm', e, ht'⟩ := xBc ht; clear ht; subst e; have ht := ht'; clear ht'))
      obtain rfl := xBm ht
      clear ht
      obtain ⟨bit, S, hbit, ebit, er, eS⟩ := wide_round m (high % m) low j h0 hj
      have hRb := rW_lt h0 (high % m) low (j + 1)
      have cbit := fun w => refBit_any low (j : Int) (by assumption) w
      rw [bitN_nat low j (by omega), ebit] at cbit
      have cnext := fun w => refTwice_any _ bit m hRb hm hbit w
      rw [er] at cnext
      clear ebit hRb er eS hbit
      generalize rW m (high % m) low (j + 1) = R at *
      have e1 : ((j + 1 : Nat) : Int) - 1 = (j : Int) := by omega
      rw [e1]
      have kj0 : 0 ≤ (j : Int) := by omega
      have kj1 : (j : Int) < 256 := by omega
      clear e1
      go_wp2_with (first | (refine' xAg hR rfl rfl rfl ?_; clear hR; intro blk w hR) | (refine' xAb hR rfl rfl inferInstance ?_; clear hR; intro blk w hR) | (refine' xAf hR rfl rfl rfl inferInstance ?hm ?hn ?_; (case hm => first | with_reducible assumption | repeat (first | exact .head _ | apply mT)); (case hn => first | rfl | simp)) | (refine' xAe hR rfl rfl rfl inferInstance ?hm ?hv ?hn ?_; (case hm => first | with_reducible assumption | repeat (first | exact .head _ | apply mT)); (case hv => first | with_reducible assumption | (simp only [kC, kD, kE, kF]; try rfl)); (case hn => first | rfl | simp)) | (refine' xAc hR rfl rfl rfl inferInstance ?hm ?hv ?_; (case hm => first | with_reducible assumption | repeat (first | exact .head _ | apply mT)); (case hv => first | rfl | with_reducible assumption)) | (refine' xAd hR rfl rfl rfl inferInstance rfl ?hs ?zone ?zvn ?hn ?_; (case hs => repeat (first | exact xAh.head | apply xAh.tail)); (case zone => first | rfl | with_reducible assumption); (case zvn => first | rfl | simp); (case hn => first | rfl | simp); clear hR; intro w hR) | (refine' xAa hR rfl rfl rfl inferInstance rfl rfl ?hs ?hn ?hl ?_; (case hs => repeat (first | exact xAh.head | apply xAh.tail)); (case hn => first | exact oD rfl | (show _ < 4; with_reducible assumption) | (simp; try omega)); (case hl => first | with_reducible assumption | (simp only [nl, kA, kB]; first | done | rfl) | rfl); clear hR; intro w hR) | fail)
      refine xAl hR [0, 0, 0, 0, 0, 0, 2] [] xCe (by kernel_rfl) rfl rfl (fun K hK => ?_)
      clear hR
      repeat ((first | (refine xBp ?_) | (refine' xAx (by decide) rfl (.inl rfl) rfl ?ha ?_) | (refine' xAx (by decide) rfl (.inr rfl) rfl ?ha ?_) | (refine' xAv rfl rfl rfl inferInstance ?hm ?hn ?ha ?_; (case hm => first | with_reducible assumption | repeat (first | exact .head _ | apply mT)); (case hn => first | rfl | simp)) | (refine' xAs rfl rfl rfl inferInstance ?hm ?hv ?hn ?ha ?_; (case hm => first | with_reducible assumption | repeat (first | exact .head _ | apply mT)); (case hv => first | with_reducible assumption | (simp only [kC, kD, kE, kF]; try rfl)); (case hn => first | rfl | simp)) | (refine' xAo rfl rfl rfl inferInstance ?hm ?hv ?ha ?_; (case hm => first | with_reducible assumption | repeat (first | exact .head _ | apply mT)); (case hv => first | rfl | with_reducible assumption)) | (refine' xAr rfl rfl rfl inferInstance ?hm ?hv ?hn ?ha ?_; (case hm => first | with_reducible assumption | repeat (first | exact .head _ | apply mT)); (case hv => first | with_reducible assumption | (simp only [kC, kD, kE, kF]; try rfl)); (case hn => first | rfl | simp)) | (refine' xAq rfl rfl rfl inferInstance ?hm ?hv ?ha ?_; (case hm => first | with_reducible assumption | repeat (first | exact .head _ | apply mT)); (case hv => first | rfl | with_reducible assumption)) | ((first | refine' xAk (by decide) rfl rfl rfl rfl (fun w => ?hq) ?ha ?_ | refine' xBh (by decide) rfl rfl rfl rfl (fun w => ?hq) ?ha ?_ | refine' xAu (by decide) rfl rfl rfl (fun w => ?hq) ?ha ?_ | refine' xAj (by decide) rfl rfl rfl (fun w => ?hq) ?ha ?_ | refine' xAw (by decide) rfl rfl rfl (fun w => ?hq) ?ha ?_ | refine' xBg (by decide) rfl rfl rfl rfl (fun w => ?hq) ?ha ?_ | refine' xBe (by decide) rfl rfl rfl rfl rfl rfl (fun w => ?hq) ?ha ?_ | refine' xBd (by decide) rfl rfl (fun w => ?hq) ?ha ?_ | refine' xAt (by decide) rfl rfl rfl (fun w => ?hq) ?ha ?_ | refine' xBf (by decide) rfl rfl rfl (fun w => ?hq) ?ha ?_); (case hq => go_simp; try rfl)) | (refine' xAn (by decide) rfl rfl rfl ?ha ?_) | (refine' xBo (by decide) rfl rfl rfl rfl ?ha ?_) | (refine' xBn (by decide) rfl ?ha ?_) | (refine' xBb rfl rfl rfl (xBj Try.func123 (by kernel_rfl) (by kernel_rfl) _) (fun w => cbit w) ?ha ?_) | (refine' xBb rfl rfl rfl (xBj Try.func122 (by kernel_rfl) (by kernel_rfl) _) (fun w => cnext w) ?ha ?_)); try (case ha => simp only [kP, kQ, kA, kB]; try rfl))
      refine xBt (hK _ _ ?_)
      clear hK K
      refine xBv (fun Q hQ => ?_)
      try simp only [List.nil_append, List.cons_append]
      repeat ((first | refine' xAy rfl (.inl rfl) rfl ?hk ?ha ?_ | refine' xAy rfl (.inr rfl) rfl ?hk ?ha ?_ | (refine' xAp rfl rfl rfl inferInstance rfl ?hs rfl rfl ?hn ?hk ?ha ?_; (case hs => repeat (first | exact xAh.head | apply xAh.tail)); (case hn => first | rfl | simp)) | (refine' xAi rfl rfl rfl inferInstance rfl rfl ?hs ?hn ?hl ?hk ?ha ?_; (case hs => repeat (first | exact xAh.head | apply xAh.tail)); (case hn => first | exact oD rfl | (show _ < 4; with_reducible assumption) | (simp; try omega)); (case hl => first | with_reducible assumption | (simp only [nl, kA, kB]; first | done | rfl) | rfl)) | (refine' xAm rfl rfl rfl inferInstance rfl rfl ?hvn ?hs ?hn ?hl ?hk ?ha ?_; (case hvn => first | rfl | simp); (case hs => repeat (first | exact xAh.head | apply xAh.tail)); (case hn => first | exact oD rfl | (show _ < 4; with_reducible assumption) | (simp; try omega)); (case hl => first | with_reducible assumption | (simp only [nl, kA, kB]; first | done | rfl) | rfl)) | (refine' xBl rfl (fun w => ?hq) ?hk ?ha ?_; (case hq => go_simp; try rfl))); (case hk => intro p hp; first | exact absurd hp List.not_mem_nil | (obtain rfl := List.mem_singleton.1 hp; repeat (first | exact List.Mem.head _ | apply mT))); (case ha => simp only [kP, kQ, kA, kB]; try rfl))
      refine xBu (fun w hR => hQ _ _ ?_)
      clear hQ Q
      go_wp2_with (first | (refine' xAg hR rfl rfl rfl ?_; clear hR; intro blk w hR) | (refine' xAb hR rfl rfl inferInstance ?_; clear hR; intro blk w hR) | (refine' xAf hR rfl rfl rfl inferInstance ?hm ?hn ?_; (case hm => first | with_reducible assumption | repeat (first | exact .head _ | apply mT)); (case hn => first | rfl | simp)) | (refine' xAe hR rfl rfl rfl inferInstance ?hm ?hv ?hn ?_; (case hm => first | with_reducible assumption | repeat (first | exact .head _ | apply mT)); (case hv => first | with_reducible assumption | (simp only [kC, kD, kE, kF]; try rfl)); (case hn => first | rfl | simp)) | (refine' xAc hR rfl rfl rfl inferInstance ?hm ?hv ?_; (case hm => first | with_reducible assumption | repeat (first | exact .head _ | apply mT)); (case hv => first | rfl | with_reducible assumption)) | (refine' xAd hR rfl rfl rfl inferInstance rfl ?hs ?zone ?zvn ?hn ?_; (case hs => repeat (first | exact xAh.head | apply xAh.tail)); (case zone => first | rfl | with_reducible assumption); (case zvn => first | rfl | simp); (case hn => first | rfl | simp); clear hR; intro w hR) | (refine' xAa hR rfl rfl rfl inferInstance rfl rfl ?hs ?hn ?hl ?_; (case hs => repeat (first | exact xAh.head | apply xAh.tail)); (case hn => first | exact oD rfl | (show _ < 4; with_reducible assumption) | (simp; try omega)); (case hl => first | with_reducible assumption | (simp only [nl, kA, kB]; first | done | rfl) | rfl); clear hR; intro w hR) | fail)
      exact hK.out _ _ (xBq rfl rfl rfl) hR
    case he2 =>
      clear hR
      intro tm w ht hR K
      simp only [Int.natCast_zero, Int.zero_sub] at ht
      repeat (first | (obtain ⟨x, tm', e, ht'⟩ := xBk ht; clear ht; subst e; have ht := ht'; clear ht') | (obtain ⟨tm', e, ht'⟩ := xBc ht; clear ht; subst e; have ht := ht'; clear ht'))
      obtain rfl := xBm ht
      clear ht
      rw [rW_zero, wide_fin h0] at hR
      go_wp2_with (first | (refine' xAg hR rfl rfl rfl ?_; clear hR; intro blk w hR) | (refine' xAb hR rfl rfl inferInstance ?_; clear hR; intro blk w hR) | (refine' xAf hR rfl rfl rfl inferInstance ?hm ?hn ?_; (case hm => first | with_reducible assumption | repeat (first | exact .head _ | apply mT)); (case hn => first | rfl | simp)) | (refine' xAe hR rfl rfl rfl inferInstance ?hm ?hv ?hn ?_; (case hm => first | with_reducible assumption | repeat (first | exact .head _ | apply mT)); (case hv => first | with_reducible assumption | (simp only [kC, kD, kE, kF]; try rfl)); (case hn => first | rfl | simp)) | (refine' xAc hR rfl rfl rfl inferInstance ?hm ?hv ?_; (case hm => first | with_reducible assumption | repeat (first | exact .head _ | apply mT)); (case hv => first | rfl | with_reducible assumption)) | (refine' xAd hR rfl rfl rfl inferInstance rfl ?hs ?zone ?zvn ?hn ?_; (case hs => repeat (first | exact xAh.head | apply xAh.tail)); (case zone => first | rfl | with_reducible assumption); (case zvn => first | rfl | simp); (case hn => first | rfl | simp); clear hR; intro w hR) | (refine' xAa hR rfl rfl rfl inferInstance rfl rfl ?hs ?hn ?hl ?_; (case hs => repeat (first | exact xAh.head | apply xAh.tail)); (case hn => first | exact oD rfl | (show _ < 4; with_reducible assumption) | (simp; try omega)); (case hl => first | with_reducible assumption | (simp only [nl, kA, kB]; first | done | rfl) | rfl); clear hR; intro w hR) | fail)
      (refine' bodyPost_ret (xBr Try.results64 rfl (hR.loadAll (P := Try.prog) (ty := 24) ?hm ?hn)) rfl ⟨?_, hR.below⟩; (case hm => first | with_reducible assumption | repeat (first | exact .head _ | apply mT)); (case hn => first | rfl | simp))
      rfl
theorem refWide_none (low high : Nat) (w : World) : Calls Try.prog 64 #[num low, num high, num 0] w fun e w' =>
    e = .returned (.tuple #[num 0, .int .i64 1]) ∧ Below w.heap.size w w' := by
  have z := eqN_self 0
  have hR := Rep.init w
  go_enter Try.func64, Try.ntmps64
  go_wp2_with (first | (refine' xAg hR rfl rfl rfl ?_; clear hR; intro blk w hR) | (refine' xAb hR rfl rfl inferInstance ?_; clear hR; intro blk w hR) | (refine' xAf hR rfl rfl rfl inferInstance ?hm ?hn ?_; (case hm => first | with_reducible assumption | repeat (first | exact .head _ | apply mT)); (case hn => first | rfl | simp)) | (refine' xAe hR rfl rfl rfl inferInstance ?hm ?hv ?hn ?_; (case hm => first | with_reducible assumption | repeat (first | exact .head _ | apply mT)); (case hv => first | with_reducible assumption | (simp only [kC, kD, kE, kF]; try rfl)); (case hn => first | rfl | simp)) | (refine' xAc hR rfl rfl rfl inferInstance ?hm ?hv ?_; (case hm => first | with_reducible assumption | repeat (first | exact .head _ | apply mT)); (case hv => first | rfl | with_reducible assumption)) | (refine' xAd hR rfl rfl rfl inferInstance rfl ?hs ?zone ?zvn ?hn ?_; (case hs => repeat (first | exact xAh.head | apply xAh.tail)); (case zone => first | rfl | with_reducible assumption); (case zvn => first | rfl | simp); (case hn => first | rfl | simp); clear hR; intro w hR) | (refine' xAa hR rfl rfl rfl inferInstance rfl rfl ?hs ?hn ?hl ?_; (case hs => repeat (first | exact xAh.head | apply xAh.tail)); (case hn => first | exact oD rfl | (show _ < 4; with_reducible assumption) | (simp; try omega)); (case hl => first | with_reducible assumption | (simp only [nl, kA, kB]; first | done | rfl) | rfl); clear hR; intro w hR) | fail)
  (refine' bodyPost_ret (xBr Try.results64 rfl (hR.loadAll (P := Try.prog) (ty := 24) ?hm ?hn)) rfl ⟨?_, hR.below⟩; (case hm => first | with_reducible assumption | repeat (first | exact .head _ | apply mT)); (case hn => first | rfl | simp))
  rw [num_zero]
  rfl
theorem refWide_any (low high m : Nat) (hl : low < B) (hh : high < B) (hm : m < B) (w : World) : Calls Try.prog 64 #[num low, num high, num m] w fun e w' =>
    e = .returned (.tuple #[num (widN low high m), .int .i64 (if m = 0 then 1 else 0)]) ∧ Below w.heap.size w w' := by
  by_cases h : m = 0
  · subst h
    rw [if_pos rfl, widN_def, if_pos rfl]
    exact refWide_none low high w
  · rw [if_neg h]
    by_cases hs : m < 18446744073709551616
    · exact refWide_short low high m hl hh h hs w
    · exact refWide_long low high m hl hh hm hs w
end Go.Proofs.Ythbcgcncoggagaa
namespace Go.Proofs.Ythbcgcncoggagaa
open Go.RowKit
attribute [local irreducible] Calls
instance rowT32 : RowT Try.prog 169 32 := .mk' (by kernel_rfl) (by kernel_rfl)
instance zeroT32 : ZeroT Try.prog 169 (u64s 32 fun _ => 0) := ⟨.agg (u64s 32 fun _ => 0).toArray, by rw [u64s_def]; kernel_rfl, rfl⟩
theorem mem_set {a b i k : Nat} (hi : i < 16) (hk : k < 16) {x : Nat} (hx : dig (accN a b i (k + 1)) (i + k) = x) : (u64s 32 (memN a b i k)).set (i + k) (.int .u64 (x : Int)) = u64s 32 (memN a b i (k + 1)) :=
  u64s_set (by rw [memN_set, hx]) fun j _ hj => memN_other a b i k j hj
theorem row_set {a b i : Nat} (hb : b < B) (hi : i < 16) {x : Nat} (hx : accN a b i 16 / 65536 ^ (i + 16) = x) : (u64s 32 (memN a b i 16)).set (i + 16) (.int .u64 (x : Int)) = u64s 32 (dig (rowN a b (i + 1))) :=
  u64s_set (by rw [row_top hb, hx]) fun j _ hj => row_other hb a i j hj
set_option maxRecDepth 100000 in
set_option maxHeartbeats 4000000 in
theorem refMul_any (a b : Nat) (ha : a < B) (hb : b < B) (w : World) : Calls Try.prog 134 #[num a, num b] w fun e w' =>
    e = .returned (.tuple #[num (a * b), num (a * b / B)]) ∧ Below w.heap.size w w' := by
  have hR := Rep.init w
  have oa := u64s_one 16 (dig a)
  have ob := u64s_one 16 (dig b)
  go_enter Try.func134, Try.ntmps134
  go_wp2_with (first | (refine' xAg hR rfl rfl rfl ?_; clear hR; intro blk w hR) | (refine' xAb hR rfl rfl inferInstance ?_; clear hR; intro blk w hR) | (refine' xAf hR rfl rfl rfl inferInstance ?hm ?hn ?_; (case hm => first | with_reducible assumption | repeat (first | exact .head _ | with_reducible assumption | apply mC)); (case hn => first | rfl | simp)) | (refine' xAe hR rfl rfl rfl inferInstance ?hm ?hv ?hn ?_; (case hm => first | with_reducible assumption | repeat (first | exact .head _ | with_reducible assumption | apply mC)); (case hv => first | with_reducible assumption | (simp only [kC, kD, kE, kF]; try rfl)); (case hn => first | rfl | simp)) | (refine' xAc hR rfl rfl rfl inferInstance ?hm ?hv ?_; (case hm => first | with_reducible assumption | repeat (first | exact .head _ | with_reducible assumption | apply mC)); (case hv => first | rfl | with_reducible assumption)) | (refine' xAd hR rfl rfl rfl inferInstance rfl ?hs ?zone ?zvn ?hn ?_; (case hs => repeat (first | exact xAh.head | apply xAh.tail)); (case zone => first | rfl | with_reducible assumption); (case zvn => first | rfl | simp); (case hn => first | rfl | simp); clear hR; intro w hR) | (refine' xAa hR rfl rfl rfl inferInstance rfl rfl ?hs ?hn ?hl ?_; (case hs => repeat (first | exact xAh.head | apply xAh.tail)); (case hn => first | exact oD rfl | (show _ < 4; with_reducible assumption) | (simp; try omega)); (case hl => first | with_reducible assumption | (simp only [nl, kA, kB]; first | done | rfl) | rfl); clear hR; intro w hR) | (go_at_call 144; refine (digits_any a _).mono ?_; rintro e w ⟨rfl, hb⟩; replace hR := hR.call hb; clear hb) | (go_at_call 144; refine (digits_any b _).mono ?_; rintro e w ⟨rfl, hb⟩; replace hR := hR.call hb; clear hb))
  rename_i ba _ bb _ r1 _ r2 _ _ bx _ _ _ by' _ _ _ _
  clear oa ob
  refine' loop_rep (false :: false :: false :: false :: false :: false :: false :: false :: false :: false :: true :: true :: true :: false :: false :: false :: false :: true :: true :: true :: true :: true :: true :: true :: true :: true :: true :: true :: true :: true :: true :: true :: true :: true :: true :: true :: true :: true :: true :: true :: true :: true :: true :: true :: true :: true :: true :: true :: true :: true :: true :: true :: false :: false :: false :: false :: []) (fun j l => l.set 9 (.int .i64 ((16 : Int) - (j : Int)))) (fun j => [(blk, .cells (u64s 32 (dig (rowN a b (16 - j)))).toArray 169), (by', .cells (u64s 16 (dig b)).toArray 156), (bx, .cells (u64s 16 (dig a)).toArray 156), (r2, .cells (nl 0).toArray 24), (r1, .cells (nl 0).toArray 24), (bb, .cells (nl b).toArray 24), (ba, .cells (nl a).toArray 24)]) 16 ?h0 ?hR ?hs ?he
  case hR =>
    have e : u64s 32 (dig (rowN a b (16 - 16))) = u64s 32 fun _ => 0 := u64s_congr fun j _ => by rw [Nat.sub_self, rowN_zero, dig_def, Nat.zero_div]
    rw [← nl_zero, e]
    exact hR
  case h0 => exact xBq rfl rfl rfl
  case hs =>
    clear hR
    intro j tm w hj ht hR K hK
    repeat (first | (obtain ⟨x, tm', e, ht'⟩ := xBk ht; clear ht; subst e; have ht := ht'; clear ht') | (obtain ⟨tm', e, ht'⟩ := xBc ht; clear ht; subst e; have ht := ht'; clear ht'))
    obtain rfl := xBm ht
    clear ht
    obtain ⟨i, hi⟩ : ∃ i, 16 - (j + 1) = i := ⟨_, rfl⟩
    have e1 : (16 : Int) - ((j + 1 : Nat) : Int) = (i : Int) := by omega
    have e2 : (16 : Int) - (j : Int) = (i : Int) + 1 := by omega
    have e3 : 16 - j = i + 1 := by omega
    rw [hi] at hR
    simp only [e2, e3] at hK
    rw [e1]
    have i16 : i < 16 := by omega
    clear e1 e2 e3 hi hj
    have g0 : 0 ≤ (i : Int) := by omega
    have g1 : (i : Int) < 16 := by omega
    go_wp2_with (first | (refine' xAg hR rfl rfl rfl ?_; clear hR; intro blk w hR) | (refine' xAb hR rfl rfl inferInstance ?_; clear hR; intro blk w hR) | (refine' xAf hR rfl rfl rfl inferInstance ?hm ?hn ?_; (case hm => first | with_reducible assumption | repeat (first | exact .head _ | with_reducible assumption | apply mC)); (case hn => first | rfl | simp)) | (refine' xAe hR rfl rfl rfl inferInstance ?hm ?hv ?hn ?_; (case hm => first | with_reducible assumption | repeat (first | exact .head _ | with_reducible assumption | apply mC)); (case hv => first | with_reducible assumption | (simp only [kC, kD, kE, kF]; try rfl)); (case hn => first | rfl | simp)) | (refine' xAc hR rfl rfl rfl inferInstance ?hm ?hv ?_; (case hm => first | with_reducible assumption | repeat (first | exact .head _ | with_reducible assumption | apply mC)); (case hv => first | rfl | with_reducible assumption)) | (refine' xAd hR rfl rfl rfl inferInstance rfl ?hs ?zone ?zvn ?hn ?_; (case hs => repeat (first | exact xAh.head | apply xAh.tail)); (case zone => first | rfl | with_reducible assumption); (case zvn => first | rfl | simp); (case hn => first | rfl | simp); clear hR; intro w hR) | (refine' xAa hR rfl rfl rfl inferInstance rfl rfl ?hs ?hn ?hl ?_; (case hs => repeat (first | exact xAh.head | apply xAh.tail)); (case hn => first | exact oD rfl | (show _ < 4; with_reducible assumption) | (simp; try omega)); (case hl => first | with_reducible assumption | (simp only [nl, kA, kB]; first | done | rfl) | rfl); clear hR; intro w hR) | fail)
    refine' loop_rep (false :: false :: false :: false :: false :: false :: false :: false :: false :: false :: false :: false :: true :: false :: false :: false :: false :: false :: false :: false :: false :: true :: true :: true :: true :: true :: true :: true :: true :: true :: true :: true :: true :: true :: true :: true :: true :: true :: true :: true :: true :: true :: true :: true :: true :: true :: true :: true :: false :: false :: false :: false :: false :: false :: false :: false :: []) (fun j l => (l.set 10 (.int .u64 ((accN a b i (16 - j) / 65536 ^ (i + (16 - j)) : Nat) : Int))).set 11 (.int .i64 ((16 : Int) - (j : Int)))) (fun j => [(blk, .cells (u64s 32 (memN a b i (16 - j))).toArray 169), (by', .cells (u64s 16 (dig b)).toArray 156), (bx, .cells (u64s 16 (dig a)).toArray 156), (r2, .cells (nl 0).toArray 24), (r1, .cells (nl 0).toArray 24), (bb, .cells (nl b).toArray 24), (ba, .cells (nl a).toArray 24)]) 16 ?h02 ?hR2 ?hs2 ?he2
    case hR2 =>
      have e : u64s 32 (memN a b i (16 - 16)) = u64s 32 (dig (rowN a b i)) := u64s_congr fun j _ => memN_start a b i j
      show Rep _ _ ((_, .cells (u64s 32 (memN a b i (16 - 16))).toArray _) :: _) _
      rw [e]
      exact hR
    case h02 =>
      have e : accN a b i (16 - 16) / 65536 ^ (i + (16 - 16)) = 0 := by
        rw [Nat.sub_self, accN_zero, Nat.add_zero, Nat.div_eq_of_lt (Nat.mod_lt _ (pow_p i))]
      simp only [e]
      exact xBq rfl rfl rfl
    case hs2 =>
      clear hR hK
      intro j tm w hj ht hR K hK
      repeat (first | (obtain ⟨x, tm', e, ht'⟩ := xBk ht; clear ht; subst e; have ht := ht'; clear ht') | (obtain ⟨tm', e, ht'⟩ := xBc ht; clear ht; subst e; have ht := ht'; clear ht'))
      obtain rfl := xBm ht
      clear ht
      obtain ⟨q, hq⟩ : ∃ q, 16 - (j + 1) = q := ⟨_, rfl⟩
      have e1 : (16 : Int) - ((j + 1 : Nat) : Int) = (q : Int) := by omega
      have e2 : (16 : Int) - (j : Int) = (q : Int) + 1 := by omega
      have e3 : 16 - j = q + 1 := by omega
      rw [hq] at hR
      simp only [e2, e3] at hK
      rw [e1, hq]
      have q16 : q < 16 := by omega
      clear e1 e2 e3 hq hj
      obtain ⟨m1, m2, m3, m4⟩ := mul_digs a b i q
      have hset := mem_set (a := a) (b := b) i16 q16 rfl
      have dD := u64s_at (n := 32) (w := memN a b i q) (i := i + q) (by omega)
      rw [memN_at] at dD
      have dX := u64s_at (w := dig a) i16
      have dY := u64s_at (w := dig b) q16
      have lx := dig_lt (rowN a b i) (i + q)
      have ly := dig_lt a i
      have lz := dig_lt b q
      rw [← m4] at hset
      rw [← m3] at hK
      clear m3 m4
      generalize accN a b i (q + 1) / 65536 ^ (i + q) = S at *
      generalize accN a b i q / 65536 ^ (i + q) = c at *
      generalize dig (rowN a b i) (i + q) = x at *
      generalize dig a i = y at *
      generalize dig b q = z at *
      have lp : y * z ≤ 65535 * 65535 := Nat.mul_le_mul (by omega) (by omega)
      have ep : IntKind.u64.wrap ((y : Int) * (z : Int)) = ((y * z : Nat) : Int) := by rw [← Int.natCast_mul, IntKind.wrap_u64]; omega
      generalize y * z = p at *
      obtain ⟨t, ht⟩ : ∃ t, x + p = t := ⟨_, rfl⟩
      rw [ht] at m1
      have e1 : IntKind.u64.wrap ((x : Int) + (p : Int)) = (t : Int) := by rw [IntKind.wrap_u64]; omega
      have e2 : IntKind.u64.wrap ((t : Int) + (c : Int)) = (S : Int) := by rw [IntKind.wrap_u64]; omega
      have e3 : (S : Int).tmod 65536 = ((S % 65536 : Nat) : Int) := by rw [Int.tmod_eq_emod_of_nonneg (by omega)]; omega
      have e4 : (S : Int) / 65536 = ((S / 65536 : Nat) : Int) := by omega
      have e5 : IntKind.u64.wrap ((S / 65536 : Nat) : Int) = ((S / 65536 : Nat) : Int) := by rw [IntKind.wrap_u64]; omega
      have e6 : 0 ≤ (S : Int) := by omega
      generalize S % 65536 = d at *
      generalize S / 65536 = c' at *
      obtain ⟨P, hP⟩ : ∃ P, i + q = P := ⟨_, rfl⟩
      rw [hP] at hset dD
      have e7 : IntKind.i64.wrap ((i : Int) + (q : Int)) = (P : Int) := by rw [IntKind.wrap_i64]; omega
      have e8 : 0 ≤ (P : Int) := by omega
      have e9 : (P : Int) < 32 := by omega
      have e10 : P < 32 := by omega
      have f0 : 0 ≤ (q : Int) := by omega
      have f1 : (q : Int) < 16 := by omega
      clear ht hP m1 m2 lx ly lz lp
      go_wp2_with (first | (refine' xAg hR rfl rfl rfl ?_; clear hR; intro blk w hR) | (refine' xAb hR rfl rfl inferInstance ?_; clear hR; intro blk w hR) | (refine' xAf hR rfl rfl rfl inferInstance ?hm ?hn ?_; (case hm => first | with_reducible assumption | repeat (first | exact .head _ | with_reducible assumption | apply mC)); (case hn => first | rfl | simp)) | (refine' xAe hR rfl rfl rfl inferInstance ?hm ?hv ?hn ?_; (case hm => first | with_reducible assumption | repeat (first | exact .head _ | with_reducible assumption | apply mC)); (case hv => first | with_reducible assumption | (simp only [kC, kD, kE, kF]; try rfl)); (case hn => first | rfl | simp)) | (refine' xAc hR rfl rfl rfl inferInstance ?hm ?hv ?_; (case hm => first | with_reducible assumption | repeat (first | exact .head _ | with_reducible assumption | apply mC)); (case hv => first | rfl | with_reducible assumption)) | (refine' xAd hR rfl rfl rfl inferInstance rfl ?hs ?zone ?zvn ?hn ?_; (case hs => repeat (first | exact xAh.head | apply xAh.tail)); (case zone => first | rfl | with_reducible assumption); (case zvn => first | rfl | simp); (case hn => first | rfl | simp); clear hR; intro w hR) | (refine' xAa hR rfl rfl rfl inferInstance rfl rfl ?hs ?hn ?hl ?_; (case hs => repeat (first | exact xAh.head | apply xAh.tail)); (case hn => first | exact oD rfl | (show _ < 4; with_reducible assumption) | (simp; try omega)); (case hl => first | with_reducible assumption | (simp only [nl, kA, kB]; first | done | rfl) | rfl); clear hR; intro w hR) | fail)
      refine xAl hR [0, 0, 0, 0, 0, 0, 0, 0, 0, 0, 0, 0, 0, 0, 0, 2] [] xCe (by kernel_rfl) rfl rfl (fun K hK => ?_)
      clear hR
      repeat ((first | (refine xBp ?_) | (refine' xAx (by decide) rfl (.inl rfl) rfl ?ha ?_) | (refine' xAx (by decide) rfl (.inr rfl) rfl ?ha ?_) | (refine' xAv rfl rfl rfl inferInstance ?hm ?hn ?ha ?_; (case hm => first | with_reducible assumption | repeat (first | exact .head _ | with_reducible assumption | apply mC)); (case hn => first | rfl | simp)) | (refine' xAs rfl rfl rfl inferInstance ?hm ?hv ?hn ?ha ?_; (case hm => first | with_reducible assumption | repeat (first | exact .head _ | with_reducible assumption | apply mC)); (case hv => first | with_reducible assumption | (simp only [kC, kD, kE, kF]; try rfl)); (case hn => first | rfl | simp)) | (refine' xAo rfl rfl rfl inferInstance ?hm ?hv ?ha ?_; (case hm => first | with_reducible assumption | repeat (first | exact .head _ | with_reducible assumption | apply mC)); (case hv => first | rfl | with_reducible assumption)) | (refine' xAr rfl rfl rfl inferInstance ?hm ?hv ?hn ?ha ?_; (case hm => first | with_reducible assumption | repeat (first | exact .head _ | with_reducible assumption | apply mC)); (case hv => first | with_reducible assumption | (simp only [kC, kD, kE, kF]; try rfl)); (case hn => first | rfl | simp)) | (refine' xAq rfl rfl rfl inferInstance ?hm ?hv ?ha ?_; (case hm => first | with_reducible assumption | repeat (first | exact .head _ | with_reducible assumption | apply mC)); (case hv => first | rfl | with_reducible assumption)) | ((first | refine' xAk (by decide) rfl rfl rfl rfl (fun w => ?hq) ?ha ?_ | refine' xBh (by decide) rfl rfl rfl rfl (fun w => ?hq) ?ha ?_ | refine' xAu (by decide) rfl rfl rfl (fun w => ?hq) ?ha ?_ | refine' xAj (by decide) rfl rfl rfl (fun w => ?hq) ?ha ?_ | refine' xAw (by decide) rfl rfl rfl (fun w => ?hq) ?ha ?_ | refine' xBg (by decide) rfl rfl rfl rfl (fun w => ?hq) ?ha ?_ | refine' xBe (by decide) rfl rfl rfl rfl rfl rfl (fun w => ?hq) ?ha ?_ | refine' xBd (by decide) rfl rfl (fun w => ?hq) ?ha ?_ | refine' xAt (by decide) rfl rfl rfl (fun w => ?hq) ?ha ?_ | refine' xBf (by decide) rfl rfl rfl (fun w => ?hq) ?ha ?_); (case hq => go_simp; try rfl)) | (refine' xAn (by decide) rfl rfl rfl ?ha ?_) | (refine' xBo (by decide) rfl rfl rfl rfl ?ha ?_) | (refine' xBn (by decide) rfl ?ha ?_) | fail); try (case ha => simp only [kP, kQ, kA, kB]; try rfl))
      refine xBt (hK _ _ ?_)
      clear hK K
      refine xBv (fun Q hQ => ?_)
      try simp only [List.nil_append, List.cons_append]
      repeat ((first | refine' xAy rfl (.inl rfl) rfl ?hk ?ha ?_ | refine' xAy rfl (.inr rfl) rfl ?hk ?ha ?_ | (refine' xAp rfl rfl rfl inferInstance rfl ?hs rfl rfl ?hn ?hk ?ha ?_; (case hs => repeat (first | exact xAh.head | apply xAh.tail)); (case hn => first | rfl | simp)) | (refine' xAi rfl rfl rfl inferInstance rfl rfl ?hs ?hn ?hl ?hk ?ha ?_; (case hs => repeat (first | exact xAh.head | apply xAh.tail)); (case hn => first | exact oD rfl | (show _ < 4; with_reducible assumption) | (simp; try omega)); (case hl => first | with_reducible assumption | (simp only [nl, kA, kB]; first | done | rfl) | rfl)) | (refine' xAm rfl rfl rfl inferInstance rfl rfl ?hvn ?hs ?hn ?hl ?hk ?ha ?_; (case hvn => first | rfl | simp); (case hs => repeat (first | exact xAh.head | apply xAh.tail)); (case hn => first | exact oD rfl | (show _ < 4; with_reducible assumption) | (simp; try omega)); (case hl => first | with_reducible assumption | (simp only [nl, kA, kB]; first | done | rfl) | rfl)) | (refine' xBl rfl (fun w => ?hq) ?hk ?ha ?_; (case hq => go_simp; try rfl))); (case hk => intro p hp; first | exact absurd hp List.not_mem_nil | (obtain rfl := List.mem_singleton.1 hp; repeat (first | exact List.Mem.head _ | with_reducible assumption | apply mC))); (case ha => simp only [kP, kQ, kA, kB]; try rfl))
      refine xBu (fun w hR => hQ _ _ ?_)
      clear hQ Q
      go_wp2_with (first | (refine' xAg hR rfl rfl rfl ?_; clear hR; intro blk w hR) | (refine' xAb hR rfl rfl inferInstance ?_; clear hR; intro blk w hR) | (refine' xAf hR rfl rfl rfl inferInstance ?hm ?hn ?_; (case hm => first | with_reducible assumption | repeat (first | exact .head _ | with_reducible assumption | apply mC)); (case hn => first | rfl | simp)) | (refine' xAe hR rfl rfl rfl inferInstance ?hm ?hv ?hn ?_; (case hm => first | with_reducible assumption | repeat (first | exact .head _ | with_reducible assumption | apply mC)); (case hv => first | with_reducible assumption | (simp only [kC, kD, kE, kF]; try rfl)); (case hn => first | rfl | simp)) | (refine' xAc hR rfl rfl rfl inferInstance ?hm ?hv ?_; (case hm => first | with_reducible assumption | repeat (first | exact .head _ | with_reducible assumption | apply mC)); (case hv => first | rfl | with_reducible assumption)) | (refine' xAd hR rfl rfl rfl inferInstance rfl ?hs ?zone ?zvn ?hn ?_; (case hs => repeat (first | exact xAh.head | apply xAh.tail)); (case zone => first | rfl | with_reducible assumption); (case zvn => first | rfl | simp); (case hn => first | rfl | simp); clear hR; intro w hR) | (refine' xAa hR rfl rfl rfl inferInstance rfl rfl ?hs ?hn ?hl ?_; (case hs => repeat (first | exact xAh.head | apply xAh.tail)); (case hn => first | exact oD rfl | (show _ < 4; with_reducible assumption) | (simp; try omega)); (case hl => first | with_reducible assumption | (simp only [nl, kA, kB]; first | done | rfl) | rfl); clear hR; intro w hR) | fail)
      exact hK.out _ _ (xBq rfl rfl rfl) hR
    case he2 =>
      clear hR
      intro tm w ht hR K2
      simp only [Int.natCast_zero, Int.sub_zero] at ht
      simp only [Nat.sub_zero] at hR ht
      repeat (first | (obtain ⟨x, tm', e, ht'⟩ := xBk ht; clear ht; subst e; have ht := ht'; clear ht') | (obtain ⟨tm', e, ht'⟩ := xBc ht; clear ht; subst e; have ht := ht'; clear ht'))
      obtain rfl := xBm ht
      clear ht
      have hset := row_set (a := a) hb i16 rfl
      generalize accN a b i 16 / 65536 ^ (i + 16) = c at *
      obtain ⟨P, hP⟩ : ∃ P, i + 16 = P := ⟨_, rfl⟩
      rw [hP] at hset
      have e7 : IntKind.i64.wrap ((i : Int) + 16) = (P : Int) := by rw [IntKind.wrap_i64]; omega
      have e8 : 0 ≤ (P : Int) := by omega
      have e9 : (P : Int) < 32 := by omega
      have e10 : P < 32 := by omega
      clear hP
      go_wp2_with (first | (refine' xAg hR rfl rfl rfl ?_; clear hR; intro blk w hR) | (refine' xAb hR rfl rfl inferInstance ?_; clear hR; intro blk w hR) | (refine' xAf hR rfl rfl rfl inferInstance ?hm ?hn ?_; (case hm => first | with_reducible assumption | repeat (first | exact .head _ | with_reducible assumption | apply mC)); (case hn => first | rfl | simp)) | (refine' xAe hR rfl rfl rfl inferInstance ?hm ?hv ?hn ?_; (case hm => first | with_reducible assumption | repeat (first | exact .head _ | with_reducible assumption | apply mC)); (case hv => first | with_reducible assumption | (simp only [kC, kD, kE, kF]; try rfl)); (case hn => first | rfl | simp)) | (refine' xAc hR rfl rfl rfl inferInstance ?hm ?hv ?_; (case hm => first | with_reducible assumption | repeat (first | exact .head _ | with_reducible assumption | apply mC)); (case hv => first | rfl | with_reducible assumption)) | (refine' xAd hR rfl rfl rfl inferInstance rfl ?hs ?zone ?zvn ?hn ?_; (case hs => repeat (first | exact xAh.head | apply xAh.tail)); (case zone => first | rfl | with_reducible assumption); (case zvn => first | rfl | simp); (case hn => first | rfl | simp); clear hR; intro w hR) | (refine' xAa hR rfl rfl rfl inferInstance rfl rfl ?hs ?hn ?hl ?_; (case hs => repeat (first | exact xAh.head | apply xAh.tail)); (case hn => first | exact oD rfl | (show _ < 4; with_reducible assumption) | (simp; try omega)); (case hl => first | with_reducible assumption | (simp only [nl, kA, kB]; first | done | rfl) | rfl); clear hR; intro w hR) | fail)
      exact hK.out _ _ (xBq rfl rfl rfl) hR
  case he =>
    clear hR
    intro tm w ht hR K
    simp only [Int.natCast_zero, Int.sub_zero] at ht
    simp only [Nat.sub_zero] at hR ht
    repeat (first | (obtain ⟨x, tm', e, ht'⟩ := xBk ht; clear ht; subst e; have ht := ht'; clear ht') | (obtain ⟨tm', e, ht'⟩ := xBc ht; clear ht; subst e; have ht := ht'; clear ht'))
    obtain rfl := xBm ht
    clear ht
    rw [rowN_16 ha] at hR
    have h1 : ∀ j, j < 16 → (u64s 32 (dig (a * b)))[0 + j]? = some (.int .u64 (dig (a * b) j : Int)) := fun j hj => by rw [Nat.zero_add]; exact u64s_at (by omega)
    have h2 : ∀ j, j < 16 → (u64s 32 (dig (a * b)))[16 + j]? = some (.int .u64 (dig (a * b / B) j : Int)) := fun j hj => by rw [u64s_at (by omega), dig_half]
    go_wp2_with (first | (refine' xAg hR rfl rfl rfl ?_; clear hR; intro blk w hR) | (refine' xAb hR rfl rfl inferInstance ?_; clear hR; intro blk w hR) | (refine' xAf hR rfl rfl rfl inferInstance ?hm ?hn ?_; (case hm => first | with_reducible assumption | repeat (first | exact .head _ | with_reducible assumption | apply mC)); (case hn => first | rfl | simp)) | (refine' xAe hR rfl rfl rfl inferInstance ?hm ?hv ?hn ?_; (case hm => first | with_reducible assumption | repeat (first | exact .head _ | with_reducible assumption | apply mC)); (case hv => first | with_reducible assumption | (simp only [kC, kD, kE, kF]; try rfl)); (case hn => first | rfl | simp)) | (refine' xAc hR rfl rfl rfl inferInstance ?hm ?hv ?_; (case hm => first | with_reducible assumption | repeat (first | exact .head _ | with_reducible assumption | apply mC)); (case hv => first | rfl | with_reducible assumption)) | (refine' xAd hR rfl rfl rfl inferInstance rfl ?hs ?zone ?zvn ?hn ?_; (case hs => repeat (first | exact xAh.head | apply xAh.tail)); (case zone => first | rfl | with_reducible assumption); (case zvn => first | rfl | simp); (case hn => first | rfl | simp); clear hR; intro w hR) | (refine' xAa hR rfl rfl rfl inferInstance rfl rfl ?hs ?hn ?hl ?_; (case hs => repeat (first | exact xAh.head | apply xAh.tail)); (case hn => first | exact oD rfl | (show _ < 4; with_reducible assumption) | (simp; try omega)); (case hl => first | with_reducible assumption | (simp only [nl, kA, kB]; first | done | rfl) | rfl); clear hR; intro w hR) | fail)
    refine xAl hR [0, 0, 0, 0, 2, 2] [] xCe (by kernel_rfl) rfl rfl (fun K hK => ?_)
    clear hR
    repeat ((first | (refine xBp ?_) | (refine' xAx (by decide) rfl (.inl rfl) rfl ?ha ?_) | (refine' xAx (by decide) rfl (.inr rfl) rfl ?ha ?_) | (refine' xAv rfl rfl rfl inferInstance ?hm ?hn ?ha ?_; (case hm => first | with_reducible assumption | repeat (first | exact .head _ | with_reducible assumption | apply mC)); (case hn => first | rfl | simp)) | (refine' xAs rfl rfl rfl inferInstance ?hm ?hv ?hn ?ha ?_; (case hm => first | with_reducible assumption | repeat (first | exact .head _ | with_reducible assumption | apply mC)); (case hv => first | with_reducible assumption | (simp only [kC, kD, kE, kF]; try rfl)); (case hn => first | rfl | simp)) | (refine' xAo rfl rfl rfl inferInstance ?hm ?hv ?ha ?_; (case hm => first | with_reducible assumption | repeat (first | exact .head _ | with_reducible assumption | apply mC)); (case hv => first | rfl | with_reducible assumption)) | (refine' xAr rfl rfl rfl inferInstance ?hm ?hv ?hn ?ha ?_; (case hm => first | with_reducible assumption | repeat (first | exact .head _ | with_reducible assumption | apply mC)); (case hv => first | with_reducible assumption | (simp only [kC, kD, kE, kF]; try rfl)); (case hn => first | rfl | simp)) | (refine' xAq rfl rfl rfl inferInstance ?hm ?hv ?ha ?_; (case hm => first | with_reducible assumption | repeat (first | exact .head _ | with_reducible assumption | apply mC)); (case hv => first | rfl | with_reducible assumption)) | ((first | refine' xAk (by decide) rfl rfl rfl rfl (fun w => ?hq) ?ha ?_ | refine' xBh (by decide) rfl rfl rfl rfl (fun w => ?hq) ?ha ?_ | refine' xAu (by decide) rfl rfl rfl (fun w => ?hq) ?ha ?_ | refine' xAj (by decide) rfl rfl rfl (fun w => ?hq) ?ha ?_ | refine' xAw (by decide) rfl rfl rfl (fun w => ?hq) ?ha ?_ | refine' xBg (by decide) rfl rfl rfl rfl (fun w => ?hq) ?ha ?_ | refine' xBe (by decide) rfl rfl rfl rfl rfl rfl (fun w => ?hq) ?ha ?_ | refine' xBd (by decide) rfl rfl (fun w => ?hq) ?ha ?_ | refine' xAt (by decide) rfl rfl rfl (fun w => ?hq) ?ha ?_ | refine' xBf (by decide) rfl rfl rfl (fun w => ?hq) ?ha ?_); (case hq => go_simp; try rfl)) | (refine' xAn (by decide) rfl rfl rfl ?ha ?_) | (refine' xBo (by decide) rfl rfl rfl rfl ?ha ?_) | (refine' xBn (by decide) rfl ?ha ?_) | (refine' hd_callR rfl rfl rfl (xBj Try.func148 (by kernel_rfl) (by kernel_rfl) _) (fun w hw => of_digits (a * b) blk 0 32 _ _ (List.Mem.head _) h1 hw) ?ha ?_) | (refine' hd_callR rfl rfl rfl (xBj Try.func148 (by kernel_rfl) (by kernel_rfl) _) (fun w hw => of_digits (a * b / B) blk 16 16 _ _ (List.Mem.head _) h2 hw) ?ha ?_)); try (case ha => simp only [kP, kQ, kA, kB]; try rfl))
    refine xBt (hK _ _ ?_)
    clear hK K
    refine xBv (fun Q hQ => ?_)
    try simp only [List.nil_append, List.cons_append]
    repeat ((first | refine' xAy rfl (.inl rfl) rfl ?hk ?ha ?_ | refine' xAy rfl (.inr rfl) rfl ?hk ?ha ?_ | (refine' xAp rfl rfl rfl inferInstance rfl ?hs rfl rfl ?hn ?hk ?ha ?_; (case hs => repeat (first | exact xAh.head | apply xAh.tail)); (case hn => first | rfl | simp)) | (refine' xAi rfl rfl rfl inferInstance rfl rfl ?hs ?hn ?hl ?hk ?ha ?_; (case hs => repeat (first | exact xAh.head | apply xAh.tail)); (case hn => first | exact oD rfl | (show _ < 4; with_reducible assumption) | (simp; try omega)); (case hl => first | with_reducible assumption | (simp only [nl, kA, kB]; first | done | rfl) | rfl)) | (refine' xAm rfl rfl rfl inferInstance rfl rfl ?hvn ?hs ?hn ?hl ?hk ?ha ?_; (case hvn => first | rfl | simp); (case hs => repeat (first | exact xAh.head | apply xAh.tail)); (case hn => first | exact oD rfl | (show _ < 4; with_reducible assumption) | (simp; try omega)); (case hl => first | with_reducible assumption | (simp only [nl, kA, kB]; first | done | rfl) | rfl)) | (refine' xBl rfl (fun w => ?hq) ?hk ?ha ?_; (case hq => go_simp; try rfl))); (case hk => intro p hp; first | exact absurd hp List.not_mem_nil | (obtain rfl := List.mem_singleton.1 hp; repeat (first | exact List.Mem.head _ | with_reducible assumption | apply mC))); (case ha => simp only [kP, kQ, kA, kB]; try rfl))
    refine xBu (fun w hR => hQ _ _ ?_)
    clear hQ Q
    go_wp2_with (first | (refine' xAg hR rfl rfl rfl ?_; clear hR; intro blk w hR) | (refine' xAb hR rfl rfl inferInstance ?_; clear hR; intro blk w hR) | (refine' xAf hR rfl rfl rfl inferInstance ?hm ?hn ?_; (case hm => first | with_reducible assumption | repeat (first | exact .head _ | with_reducible assumption | apply mC)); (case hn => first | rfl | simp)) | (refine' xAe hR rfl rfl rfl inferInstance ?hm ?hv ?hn ?_; (case hm => first | with_reducible assumption | repeat (first | exact .head _ | with_reducible assumption | apply mC)); (case hv => first | with_reducible assumption | (simp only [kC, kD, kE, kF]; try rfl)); (case hn => first | rfl | simp)) | (refine' xAc hR rfl rfl rfl inferInstance ?hm ?hv ?_; (case hm => first | with_reducible assumption | repeat (first | exact .head _ | with_reducible assumption | apply mC)); (case hv => first | rfl | with_reducible assumption)) | (refine' xAd hR rfl rfl rfl inferInstance rfl ?hs ?zone ?zvn ?hn ?_; (case hs => repeat (first | exact xAh.head | apply xAh.tail)); (case zone => first | rfl | with_reducible assumption); (case zvn => first | rfl | simp); (case hn => first | rfl | simp); clear hR; intro w hR) | (refine' xAa hR rfl rfl rfl inferInstance rfl rfl ?hs ?hn ?hl ?_; (case hs => repeat (first | exact xAh.head | apply xAh.tail)); (case hn => first | exact oD rfl | (show _ < 4; with_reducible assumption) | (simp; try omega)); (case hl => first | with_reducible assumption | (simp only [nl, kA, kB]; first | done | rfl) | rfl); clear hR; intro w hR) | fail)
    (refine' bodyPost_ret (results_cc Try.results134 rfl (hR.loadAll (P := Try.prog) (ty := 24) ?hm ?hn) rfl (hR.loadAll (P := Try.prog) (ty := 24) ?hm2 ?hn2)) rfl ⟨?_, hR.below⟩; (case hm => first | with_reducible assumption | repeat (first | exact .head _ | with_reducible assumption | apply mC)); (case hn => first | rfl | simp); (case hm2 => first | with_reducible assumption | repeat (first | exact .head _ | with_reducible assumption | apply mC)); (case hn2 => first | rfl | simp))
    rfl
end Go.Proofs.Ythbcgcncoggagaa
