/- The contracts of balefireref04.word, Exp. -/
import Derived.Test.YtdagdfcbnhfdkaaMU
import Derived.Test.YtdagdfcbnhfdkaaMExpDeed
set_option linter.unusedVariables false
set_option linter.unusedSimpArgs false
namespace Go.Proofs.Ytdagdfcbnhfdkaa
open Go.RowKit
attribute [local irreducible] Calls
set_option maxRecDepth 100000 in
set_option maxHeartbeats 2000000 in
theorem refWordPow_any (a n m : Nat) (ha : a < m) (hn : n < B) (h1 : 1 < m) (hs : m < 18446744073709551616) (w : World) : Calls Try.prog 96 #[.int .u64 (a : Int), num n, .int .u64 (m : Int)] w fun e w' =>
    e = .returned (.int .u64 ((powN a n m : Nat) : Int)) ∧ Below w.heap.size w w' := by
  have cb := fun w => refBits_any n hn w
  have hn1 : blen n ≤ 256 := (xBq _ _).mpr (by rw [B_eq] at hn; exact hn)
  have hn2 := blen_lt n
  generalize blen n = N at *
  have em1 : ((m : Int) == 0) = false := by
    simp
    omega
  have em2 : ¬ (m : Int) = 0 := by omega
  have em3 : (1 : Int).tmod (m : Int) = 1 := by rw [Int.tmod_eq_emod_of_nonneg (by decide)]; exact Int.emod_eq_of_lt (by decide) (by omega)
  have kb : (N : Int) ≤ 256 := by omega
  have kN : IntKind.i64.wrap ((N : Int) - 1) = (N : Int) - 1 := by rw [IntKind.wrap_i64]; omega
  have hR := Rep.init w
  go_enter Try.func96, Try.ntmps96
  go_wp2_with (first | (refine' xAb hR rfl rfl rfl ?_; clear hR; intro blk w hR) | (refine' xAa hR rfl rfl inferInstance ?_; clear hR; intro blk w hR) | (refine' aAq hR rfl rfl rfl inferInstance ?_) | (refine' aBq hR rfl rfl rfl inferInstance ?_) | (refine' aCq hR rfl rfl rfl inferInstance ?_) | (refine' aDq hR rfl rfl rfl inferInstance rfl ?_; clear hR; intro w hR) | (refine' aEq hR rfl rfl rfl inferInstance rfl rfl ?_; clear hR; intro w hR) | (go_at_call 97; refine (cb _).mono ?_; rintro e w ⟨rfl, hb⟩; replace hR := hR.call hb; clear hb))
  clear em1 em2 em3
  refine' xBv (false :: false :: false :: false :: false :: false :: false :: false :: false :: true :: true :: false :: false :: false :: false :: false :: true :: true :: true :: true :: true :: true :: true :: true :: true :: true :: true :: true :: true :: true :: true :: true :: true :: true :: true :: true :: true :: true :: true :: true :: true :: true :: true :: true :: true :: true :: true :: true :: true :: true :: true :: true :: true :: true :: true :: false :: []) (fun j l => (l.set 7 (.int .u64 ((pR a n m j : Nat) : Int))).set 8 (.int .i64 ((j : Int) - 1))) (fun j => [(blk, .cells (nl n).toArray 24)]) N ?h0 ?hR ?hs ?he
  case hR => exact hR
  case h0 =>
    simp only [pR_top h1 hn2]
    exact xBg rfl rfl rfl
  case hs =>
    clear hR
    intro j tm w hj ht hR K hK
    repeat (first | (obtain ⟨x, tm', e, ht'⟩ := xAu ht; clear ht; subst e; have ht := ht'; clear ht') | (obtain ⟨tm', e, ht'⟩ := xAj ht; clear ht; subst e; have ht := ht'; clear ht'))
    obtain rfl := xAy ht
    clear ht
    obtain ⟨T, hT, hbit⟩ := pow_round a n m j
    have hP := pR_lt h1 a n (j + 1)
    have lT : T < m := by rw [← hT, mulN_def]; exact Nat.mod_lt _ (by omega)
    obtain ⟨h, l, q, m1, d1⟩ := word_pair (pR a n m (j + 1)) (pR a n m (j + 1)) m hP (by omega) hs
    rw [hT] at d1
    generalize pR a n m (j + 1) = R at *
    have e1 : ((j + 1 : Nat) : Int) - 1 = (j : Int) := by omega
    rw [e1]
    have hbw := bit_plain n (j : Int) (by omega)
    rw [xCo n j (by omega)] at hbw
    have hv := nl_at n (j / 64) (by omega)
    have l0 := wd_lo n (j / 64)
    have l1 := wd_hi n (j / 64)
    obtain ⟨x, hx⟩ : ∃ x, j / 64 = x := ⟨_, rfl⟩
    obtain ⟨y, hy⟩ : ∃ y, j % 64 = y := ⟨_, rfl⟩
    have e1 : (j : Int) / 64 = (x : Int) := by omega
    have e4 : (j : Int) % 64 = (y : Int) := by omega
    rw [e1, e4, Int.toNat_natCast, Int.toNat_natCast] at hbw
    rw [hx] at hv l0 l1
    have e2 : IntKind.i64.wrap (x : Int) = (x : Int) := by rw [IntKind.wrap_i64]; omega
    have e3 : (j : Int).tmod 64 = (y : Int) := by rw [Int.tmod_eq_emod_of_nonneg (by omega)]; omega
    have e5 : IntKind.i64.wrap (y : Int) = (y : Int) := by rw [IntKind.wrap_i64]; omega
    have e6 : (x : Int) < 4 := by omega
    have e7 : (y : Int) < 64 := by omega
    have e8 : 0 ≤ (x : Int) := by omega
    have e9 : 0 ≤ (y : Int) := by omega
    have e10 : x < 4 := by omega
    have kj0 : 0 ≤ (j : Int) := by omega
    have kj1 : (j : Int) < 256 := by omega
    clear hx hy hj hn1 hn2 kN kb cb
    rcases hbit with ⟨hb, hS⟩ | ⟨hb, hS⟩
    · rw [hb] at hbw
      rw [hS] at hK
      clear hb hS hT lT hP
      go_wp2_with (first | (refine' xAb hR rfl rfl rfl ?_; clear hR; intro blk w hR) | (refine' xAa hR rfl rfl inferInstance ?_; clear hR; intro blk w hR) | (refine' aAq hR rfl rfl rfl inferInstance ?_) | (refine' aBq hR rfl rfl rfl inferInstance ?_) | (refine' aCq hR rfl rfl rfl inferInstance ?_) | (refine' aDq hR rfl rfl rfl inferInstance rfl ?_; clear hR; intro w hR) | (refine' aEq hR rfl rfl rfl inferInstance rfl rfl ?_; clear hR; intro w hR) | (go_at_call 123; refine (m1 _).mono ?_; rintro e w ⟨rfl, hb⟩; replace hR := hR.call hb; clear hb) | (go_at_call 120; refine (d1 _).mono ?_; rintro e w ⟨rfl, hb⟩; replace hR := hR.call hb; clear hb))
      exact hK.out _ _ (xBg rfl rfl rfl) hR
    · rw [hb] at hbw
      obtain ⟨h', l', q', m2, d2⟩ := word_pair T a m lT (by omega) hs
      rw [hS] at d2
      clear hb hS hT lT hP
      go_wp2_with (first | (refine' xAb hR rfl rfl rfl ?_; clear hR; intro blk w hR) | (refine' xAa hR rfl rfl inferInstance ?_; clear hR; intro blk w hR) | (refine' aAq hR rfl rfl rfl inferInstance ?_) | (refine' aBq hR rfl rfl rfl inferInstance ?_) | (refine' aCq hR rfl rfl rfl inferInstance ?_) | (refine' aDq hR rfl rfl rfl inferInstance rfl ?_; clear hR; intro w hR) | (refine' aEq hR rfl rfl rfl inferInstance rfl rfl ?_; clear hR; intro w hR) | (go_at_call 123; refine (m1 _).mono ?_; rintro e w ⟨rfl, hb⟩; replace hR := hR.call hb; clear hb) | (go_at_call 120; refine (d1 _).mono ?_; rintro e w ⟨rfl, hb⟩; replace hR := hR.call hb; clear hb) | (go_at_call 123; refine (m2 _).mono ?_; rintro e w ⟨rfl, hb⟩; replace hR := hR.call hb; clear hb) | (go_at_call 120; refine (d2 _).mono ?_; rintro e w ⟨rfl, hb⟩; replace hR := hR.call hb; clear hb))
      exact hK.out _ _ (xBg rfl rfl rfl) hR
  case he =>
    clear hR
    intro tm w ht hR K
    rw [pR_zero] at ht
    simp only [Int.natCast_zero, Int.zero_sub] at ht
    repeat (first | (obtain ⟨x, tm', e, ht'⟩ := xAu ht; clear ht; subst e; have ht := ht'; clear ht') | (obtain ⟨tm', e, ht'⟩ := xAj ht; clear ht; subst e; have ht := ht'; clear ht'))
    obtain rfl := xAy ht
    clear ht
    go_wp2_with (first | (refine' xAb hR rfl rfl rfl ?_; clear hR; intro blk w hR) | (refine' xAa hR rfl rfl inferInstance ?_; clear hR; intro blk w hR) | (refine' aAq hR rfl rfl rfl inferInstance ?_) | (refine' aBq hR rfl rfl rfl inferInstance ?_) | (refine' aCq hR rfl rfl rfl inferInstance ?_) | (refine' aDq hR rfl rfl rfl inferInstance rfl ?_; clear hR; intro w hR) | (refine' aEq hR rfl rfl rfl inferInstance rfl rfl ?_; clear hR; intro w hR) | fail)
    go_ret
    exact ⟨rfl, hR.below⟩
set_option maxRecDepth 100000 in
set_option maxHeartbeats 4000000 in
theorem refExp_long (a n m : Nat) (ok : okE a m) (hn : n < B) (hm : m < B) (hs : ¬ m < 18446744073709551616) (w : World) : Calls Try.prog 53 #[num a, num n, num m] w fun e w' =>
    e = .returned (.tuple #[num (powN a n m), .int .i64 0]) ∧ Below w.heap.size w w' := by
  obtain ⟨h1, ha⟩ := ok
  have cm := fun w => refMay_any a a m (by omega) (by omega) hm w
  rw [decide_eq_true (show okM a a m from ⟨h1, ha, ha⟩)] at cm
  have cw := fun w => xCd m hm w
  rw [decide_eq_false hs] at cw
  obtain ⟨n1, hn1⟩ : ∃ n, n = 1 := ⟨_, rfl⟩
  have o1 : ∀ w, Calls Try.prog 93 #[.int .u64 1] w fun e w' => e = .returned (num n1) ∧ Below w.heap.size w w' := fun w => by
    rw [hn1]; exact xCm 1 (by decide) w
  have cb := fun w => refBits_any n hn w
  have hn1' : blen n ≤ 256 := (xBq _ _).mpr (by rw [B_eq] at hn; exact hn)
  have hn2 := blen_lt n
  generalize blen n = N at *
  have e0 : pR a n m N = n1 := by rw [pR_top h1 hn2, hn1]
  have kb : (N : Int) ≤ 256 := by omega
  have kN : IntKind.i64.wrap ((N : Int) - 1) = (N : Int) - 1 := by rw [IntKind.wrap_i64]; omega
  replace hn1 := Held.mk hn1
  replace e0 := Held.mk e0
  have hR := Rep.init w
  go_enter Try.func53, Try.ntmps53
  go_wp2_with (first | (refine' xAb hR rfl rfl rfl ?_; clear hR; intro blk w hR) | (refine' xAa hR rfl rfl inferInstance ?_; clear hR; intro blk w hR) | (refine' aAq hR rfl rfl rfl inferInstance ?_) | (refine' aBq hR rfl rfl rfl inferInstance ?_) | (refine' aCq hR rfl rfl rfl inferInstance ?_) | (refine' aDq hR rfl rfl rfl inferInstance rfl ?_; clear hR; intro w hR) | (refine' aEq hR rfl rfl rfl inferInstance rfl rfl ?_; clear hR; intro w hR) | (go_at_call 97; refine (cb _).mono ?_; rintro e w ⟨rfl, hb⟩; replace hR := hR.call hb; clear hb) | (go_at_call 94; refine (cm _).mono ?_; rintro e w ⟨rfl, hb⟩; replace hR := hR.call hb; clear hb) | (go_at_call 95; refine (cw _).mono ?_; rintro e w ⟨rfl, hb⟩; replace hR := hR.call hb; clear hb) | (go_at_call 93; refine (o1 _).mono ?_; rintro e w ⟨rfl, hb⟩; replace hR := hR.call hb; clear hb))
  clear cm cw o1 cb
  (first | (rename_i b6; change Nat at b6) | (rename_i b6 _; change Nat at b6) | (rename_i b6 _ _; change Nat at b6) | (rename_i b6 _ _ _; change Nat at b6) | (rename_i b6 _ _ _ _; change Nat at b6) | (rename_i b6 _ _ _ _ _; change Nat at b6) | (rename_i b6 _ _ _ _ _ _; change Nat at b6) | (rename_i b6 _ _ _ _ _ _ _; change Nat at b6) | (rename_i b6 _ _ _ _ _ _ _ _; change Nat at b6) | (rename_i b6 _ _ _ _ _ _ _ _ _; change Nat at b6) | (rename_i b6 _ _ _ _ _ _ _ _ _ _; change Nat at b6) | (rename_i b6 _ _ _ _ _ _ _ _ _ _ _; change Nat at b6) | (rename_i b6 _ _ _ _ _ _ _ _ _ _ _ _; change Nat at b6) | (rename_i b6 _ _ _ _ _ _ _ _ _ _ _ _ _; change Nat at b6))
  (first | (rename_i b5; change Nat at b5) | (rename_i b5 _; change Nat at b5) | (rename_i b5 _ _; change Nat at b5) | (rename_i b5 _ _ _; change Nat at b5) | (rename_i b5 _ _ _ _; change Nat at b5) | (rename_i b5 _ _ _ _ _; change Nat at b5) | (rename_i b5 _ _ _ _ _ _; change Nat at b5) | (rename_i b5 _ _ _ _ _ _ _; change Nat at b5) | (rename_i b5 _ _ _ _ _ _ _ _; change Nat at b5) | (rename_i b5 _ _ _ _ _ _ _ _ _; change Nat at b5) | (rename_i b5 _ _ _ _ _ _ _ _ _ _; change Nat at b5) | (rename_i b5 _ _ _ _ _ _ _ _ _ _ _; change Nat at b5) | (rename_i b5 _ _ _ _ _ _ _ _ _ _ _ _; change Nat at b5) | (rename_i b5 _ _ _ _ _ _ _ _ _ _ _ _ _; change Nat at b5))
  (first | (rename_i b4; change Nat at b4) | (rename_i b4 _; change Nat at b4) | (rename_i b4 _ _; change Nat at b4) | (rename_i b4 _ _ _; change Nat at b4) | (rename_i b4 _ _ _ _; change Nat at b4) | (rename_i b4 _ _ _ _ _; change Nat at b4) | (rename_i b4 _ _ _ _ _ _; change Nat at b4) | (rename_i b4 _ _ _ _ _ _ _; change Nat at b4) | (rename_i b4 _ _ _ _ _ _ _ _; change Nat at b4) | (rename_i b4 _ _ _ _ _ _ _ _ _; change Nat at b4) | (rename_i b4 _ _ _ _ _ _ _ _ _ _; change Nat at b4) | (rename_i b4 _ _ _ _ _ _ _ _ _ _ _; change Nat at b4) | (rename_i b4 _ _ _ _ _ _ _ _ _ _ _ _; change Nat at b4) | (rename_i b4 _ _ _ _ _ _ _ _ _ _ _ _ _; change Nat at b4))
  (first | (rename_i b3; change Nat at b3) | (rename_i b3 _; change Nat at b3) | (rename_i b3 _ _; change Nat at b3) | (rename_i b3 _ _ _; change Nat at b3) | (rename_i b3 _ _ _ _; change Nat at b3) | (rename_i b3 _ _ _ _ _; change Nat at b3) | (rename_i b3 _ _ _ _ _ _; change Nat at b3) | (rename_i b3 _ _ _ _ _ _ _; change Nat at b3) | (rename_i b3 _ _ _ _ _ _ _ _; change Nat at b3) | (rename_i b3 _ _ _ _ _ _ _ _ _; change Nat at b3) | (rename_i b3 _ _ _ _ _ _ _ _ _ _; change Nat at b3) | (rename_i b3 _ _ _ _ _ _ _ _ _ _ _; change Nat at b3) | (rename_i b3 _ _ _ _ _ _ _ _ _ _ _ _; change Nat at b3) | (rename_i b3 _ _ _ _ _ _ _ _ _ _ _ _ _; change Nat at b3))
  refine' xBv (false :: false :: false :: false :: false :: false :: false :: false :: false :: false :: false :: false :: false :: false :: false :: false :: false :: false :: false :: false :: false :: false :: false :: false :: false :: false :: false :: false :: false :: true :: true :: true :: true :: true :: true :: true :: true :: true :: true :: true :: true :: true :: true :: true :: true :: false :: []) (fun j l => l.set 9 (.int .i64 ((j : Int) - 1))) (fun j => [(blk, .cells (nl (pR a n m j)).toArray 24), (b6, .cells (nl 0).toArray 24), (b5, .cells (nl m).toArray 24), (b4, .cells (nl n).toArray 24), (b3, .cells (nl a).toArray 24)]) N ?h0 ?hR ?hs ?he
  case hR =>
    show Rep _ _ ((_, .cells (nl (pR a n m N)).toArray _) :: _) _
    rw [e0.out, ← nl_zero]
    exact hR
  case h0 => exact xBg rfl rfl rfl
  case hs =>
    clear hR
    intro j tm w hj ht hR K hK
    repeat (first | (obtain ⟨x, tm', e, ht'⟩ := xAu ht; clear ht; subst e; have ht := ht'; clear ht') | (obtain ⟨tm', e, ht'⟩ := xAj ht; clear ht; subst e; have ht := ht'; clear ht'))
    obtain rfl := xAy ht
    clear ht
    obtain ⟨T, hT, hbit⟩ := pow_round a n m j
    have hP := pR_lt h1 a n (j + 1)
    have lT : T < m := by rw [← hT, mulN_def]; exact Nat.mod_lt _ (by omega)
    have t1 := fun w => refTimes_any _ _ m hP hP hm w
    rw [hT] at t1
    generalize pR a n m (j + 1) = R at *
    have e1 : ((j + 1 : Nat) : Int) - 1 = (j : Int) := by omega
    rw [e1]
    have cbit := fun w => refBit_any n (j : Int) hn w
    rw [xCo n j (by omega)] at cbit
    have kj0 : 0 ≤ (j : Int) := by omega
    have kj1 : (j : Int) < 256 := by omega
    clear hj hn1' hn2 kN kb
    rcases hbit with ⟨hb, hS⟩ | ⟨hb, hS⟩
    · rw [hb] at cbit
      rw [hS] at hK
      clear hb hS hT lT hP
      go_wp2_with (first | (refine' xAb hR rfl rfl rfl ?_; clear hR; intro blk w hR) | (refine' xAa hR rfl rfl inferInstance ?_; clear hR; intro blk w hR) | (refine' aAq hR rfl rfl rfl inferInstance ?_) | (refine' aBq hR rfl rfl rfl inferInstance ?_) | (refine' aCq hR rfl rfl rfl inferInstance ?_) | (refine' aDq hR rfl rfl rfl inferInstance rfl ?_; clear hR; intro w hR) | (refine' aEq hR rfl rfl rfl inferInstance rfl rfl ?_; clear hR; intro w hR) | (go_at_call 98; refine (t1 _).mono ?_; rintro e w ⟨rfl, hb⟩; replace hR := hR.call hb; clear hb) | (go_at_call 99; refine (cbit _).mono ?_; rintro e w ⟨rfl, hb⟩; replace hR := hR.call hb; clear hb))
      exact hK.out _ _ (xBg rfl rfl rfl) hR
    · rw [hb] at cbit
      have t2 := fun w => refTimes_any T a m lT ha hm w
      rw [hS] at t2
      clear hb hS hT lT hP
      go_wp2_with (first | (refine' xAb hR rfl rfl rfl ?_; clear hR; intro blk w hR) | (refine' xAa hR rfl rfl inferInstance ?_; clear hR; intro blk w hR) | (refine' aAq hR rfl rfl rfl inferInstance ?_) | (refine' aBq hR rfl rfl rfl inferInstance ?_) | (refine' aCq hR rfl rfl rfl inferInstance ?_) | (refine' aDq hR rfl rfl rfl inferInstance rfl ?_; clear hR; intro w hR) | (refine' aEq hR rfl rfl rfl inferInstance rfl rfl ?_; clear hR; intro w hR) | (go_at_call 98; refine (t1 _).mono ?_; rintro e w ⟨rfl, hb⟩; replace hR := hR.call hb; clear hb) | (go_at_call 99; refine (cbit _).mono ?_; rintro e w ⟨rfl, hb⟩; replace hR := hR.call hb; clear hb) | (go_at_call 98; refine (t2 _).mono ?_; rintro e w ⟨rfl, hb⟩; replace hR := hR.call hb; clear hb))
      exact hK.out _ _ (xBg rfl rfl rfl) hR
  case he =>
    clear hR
    intro tm w ht hR K
    simp only [Int.natCast_zero, Int.zero_sub] at ht
    repeat (first | (obtain ⟨x, tm', e, ht'⟩ := xAu ht; clear ht; subst e; have ht := ht'; clear ht') | (obtain ⟨tm', e, ht'⟩ := xAj ht; clear ht; subst e; have ht := ht'; clear ht'))
    obtain rfl := xAy ht
    clear ht
    rw [pR_zero] at hR
    go_wp2_with (first | (refine' xAb hR rfl rfl rfl ?_; clear hR; intro blk w hR) | (refine' xAa hR rfl rfl inferInstance ?_; clear hR; intro blk w hR) | (refine' aAq hR rfl rfl rfl inferInstance ?_) | (refine' aBq hR rfl rfl rfl inferInstance ?_) | (refine' aCq hR rfl rfl rfl inferInstance ?_) | (refine' aDq hR rfl rfl rfl inferInstance rfl ?_; clear hR; intro w hR) | (refine' aEq hR rfl rfl rfl inferInstance rfl rfl ?_; clear hR; intro w hR) | fail)
    (refine' bodyPost_ret (xBm Try.results53 rfl (hR.loadAll (P := Try.prog) (ty := 24) ?hm ?hn)) rfl ⟨?_, hR.below⟩; (case hm => first | with_reducible assumption | repeat (first | exact .head _ | apply mT)); (case hn => first | rfl | simp))
    rfl
set_option maxRecDepth 100000 in
set_option maxHeartbeats 2000000 in
theorem ref04_exp (a n m : Nat) (ha : a < B) (hn : n < B) (hm : m < B) (w : World) : Calls Try.prog 53 #[num a, num n, num m] w fun e w' =>
    e = .returned (.tuple #[num (if okE a m then powN a n m else 0), .int .i64 (if okE a m then 0 else 1)]) ∧ Below w.heap.size w w' := by
  by_cases ok : okE a m
  · rw [if_pos ok, if_pos ok]
    by_cases hs : m < 18446744073709551616
    · obtain ⟨h1, ha⟩ := ok
      have cm := fun w => refMay_any a a m (by omega) (by omega) hm w
      rw [decide_eq_true (show okM a a m from ⟨h1, ha, ha⟩)] at cm
      have cw := fun w => xCd m hm w
      rw [decide_eq_true hs] at cw
      have cp := fun w => refWordPow_any a n m ha hn h1 hs w
      have ea : wd a 0 = (a : Int) := by rw [wd_eq]; unfold w64; omega
      have em : wd m 0 = (m : Int) := by rw [wd_eq]; unfold w64; omega
      rw [← ea, ← em] at cp
      have o1 := fun w => xCm (powN a n m) (by rw [powN_def]; exact Nat.lt_trans (Nat.mod_lt _ (by omega)) hs) w
      generalize powN a n m = r at *
      clear h1 ha hs ea em
      have hR := Rep.init w
      go_enter Try.func53, Try.ntmps53
      go_wp2_with (first | (refine' xAb hR rfl rfl rfl ?_; clear hR; intro blk w hR) | (refine' xAa hR rfl rfl inferInstance ?_; clear hR; intro blk w hR) | (refine' aAq hR rfl rfl rfl inferInstance ?_) | (refine' aBq hR rfl rfl rfl inferInstance ?_) | (refine' aCq hR rfl rfl rfl inferInstance ?_) | (refine' aDq hR rfl rfl rfl inferInstance rfl ?_; clear hR; intro w hR) | (refine' aEq hR rfl rfl rfl inferInstance rfl rfl ?_; clear hR; intro w hR) | (go_at_call 94; refine (cm _).mono ?_; rintro e w ⟨rfl, hb⟩; replace hR := hR.call hb; clear hb) | (go_at_call 95; refine (cw _).mono ?_; rintro e w ⟨rfl, hb⟩; replace hR := hR.call hb; clear hb) | (go_at_call 96; refine (cp _).mono ?_; rintro e w ⟨rfl, hb⟩; replace hR := hR.call hb; clear hb) | (go_at_call 93; refine (o1 _).mono ?_; rintro e w ⟨rfl, hb⟩; replace hR := hR.call hb; clear hb))
      (refine' bodyPost_ret (xBm Try.results53 rfl (hR.loadAll (P := Try.prog) (ty := 24) ?hm ?hn)) rfl ⟨?_, hR.below⟩; (case hm => first | with_reducible assumption | repeat (first | exact .head _ | apply mT)); (case hn => first | rfl | simp))
      rfl
    · exact refExp_long a n m ok hn hm hs w
  · rw [if_neg ok, if_neg ok]
    have cm := fun w => refMay_any a a m ha ha hm w
    rw [decide_eq_false (fun h : okM a a m => ok ⟨h.1, h.2.1⟩)] at cm
    clear ok
    have hR := Rep.init w
    go_enter Try.func53, Try.ntmps53
    go_wp2_with (first | (refine' xAb hR rfl rfl rfl ?_; clear hR; intro blk w hR) | (refine' xAa hR rfl rfl inferInstance ?_; clear hR; intro blk w hR) | (refine' aAq hR rfl rfl rfl inferInstance ?_) | (refine' aBq hR rfl rfl rfl inferInstance ?_) | (refine' aCq hR rfl rfl rfl inferInstance ?_) | (refine' aDq hR rfl rfl rfl inferInstance rfl ?_; clear hR; intro w hR) | (refine' aEq hR rfl rfl rfl inferInstance rfl rfl ?_; clear hR; intro w hR) | (go_at_call 94; refine (cm _).mono ?_; rintro e w ⟨rfl, hb⟩; replace hR := hR.call hb; clear hb))
    (refine' bodyPost_ret (xBm Try.results53 rfl (hR.loadAll (P := Try.prog) (ty := 24) ?hm ?hn)) rfl ⟨?_, hR.below⟩; (case hm => first | with_reducible assumption | repeat (first | exact .head _ | apply mT)); (case hn => first | rfl | simp))
    rw [xCe]
    rfl
end Go.Proofs.Ytdagdfcbnhfdkaa
