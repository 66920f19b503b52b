import Derived.Test.YtaaahfjpnggkbaaGreatDoorHN
set_option linter.unusedSimpArgs false
set_option linter.unusedVariables false
set_option maxRecDepth 100000
set_option maxHeartbeats 20000000
namespace Go.Proofs.YtaaahfjpnggkbaaGreatDoor
open Go.RowKit
attribute [local irreducible] Calls
noncomputable def sOf : Nat → Int → Nat := opq fun q n => if q < 2 then 0 else (n % (q : Int)).toNat
theorem xJw (q : Nat) (n : Int) : sOf q n = if q < 2 then 0 else (n % (q : Int)).toNat := by unfold sOf; rw [xBs]
theorem sOf_cast {q : Nat} (h : 1 < q) (n : Int) : ((sOf q n : Nat) : Int) = n % (q : Int) := by
 rw [xJw, if_neg (by omega)]
 exact Int.toNat_of_nonneg (Int.emod_nonneg _ (by omega))
theorem sOf_lt {q : Nat} (h : 1 < q) (n : Int) : sOf q n < q := by
 have h1 := sOf_cast h n
 have h2 := Int.emod_lt_of_pos n (show (0 : Int) < (q : Int) by omega)
 omega
noncomputable def xR : Nat → Nat → Nat → Nat := opq fun M q j => M / 2 ^ j % q
theorem xR_def (M q j : Nat) : xR M q j = M / 2 ^ j % q := by unfold xR; rw [xBs]
theorem xR_top {M N : Nat} (q : Nat) (h : M < 2 ^ N) : xR M q N = 0 := by rw [xR_def, Nat.div_eq_of_lt h, Nat.zero_mod]
theorem xR_zero (M q : Nat) : xR M q 0 = M % q := by rw [xR_def, Nat.pow_zero, Nat.div_one]
theorem xR_lt {q : Nat} (h : 1 < q) (M j : Nat) : xR M q j < q := by rw [xR_def]; exact Nat.mod_lt _ (by omega)
theorem xR_round (M q j : Nat) : ∃ T, (xR M q (j + 1) + xR M q (j + 1)) % q = T ∧ ((M / 2 ^ j % 2 = 0 ∧ xR M q j = T) ∨ (M / 2 ^ j % 2 = 1 ∧ (T + 1) % q = xR M q j)) := by
 refine ⟨_, rfl, ?_⟩
 have hA : M / 2 ^ j = 2 * (M / 2 ^ (j + 1)) + M / 2 ^ j % 2 := by
  rw [Nat.pow_succ, ← Nat.div_div_eq_div_mul]; omega
 simp only [xR_def]
 generalize M / 2 ^ (j + 1) = A at *
 generalize M / 2 ^ j = D at *
 have h2 : D % 2 = 0 ∨ D % 2 = 1 := by omega
 rcases h2 with h | h
 ·left
  refine ⟨h, ?_⟩
  rw [hA, h, ← Nat.add_mod, Nat.add_zero, Nat.two_mul]
 ·right
  refine ⟨h, ?_⟩
  rw [hA, h, ← Nat.add_mod, Nat.mod_add_mod, Nat.two_mul]
theorem sOf_pos {q : Nat} (h : 1 < q) {n : Int} (hn : 0 ≤ n) : n.natAbs % q = sOf q n := by
 have := sOf_cast h n
 have e : ((n.natAbs % q : Nat) : Int) = n % (q : Int) := by
  rw [Int.natCast_emod, Int.natAbs_of_nonneg hn]
 omega
theorem sOf_neg {q : Nat} (h : 1 < q) {n : Int} (hn : n < 0) : subN 0 (n.natAbs % q) q = sOf q n := by
 have h1 := sOf_cast h n
 have hlt : n.natAbs % q < q := Nat.mod_lt _ (by omega)
 have e : ((subN 0 (n.natAbs % q) q : Nat) : Int) = n % (q : Int) := by
  rw [xEi, Nat.zero_add, Int.natCast_emod, Int.natCast_sub (by omega), Int.natCast_emod]
  have : ((n.natAbs : Nat) : Int) = -n := by omega
  rw [this]
  have k := Int.emod_add_mul_ediv (-n) (q : Int)
  have e2 : (q : Int) - (-n) % (q : Int) = n + (q : Int) * (1 + (-n) / (q : Int)) := by
   rw [Int.mul_add, Int.mul_one]; omega
  rw [e2, Int.add_mul_emod_self_left]
 omega
theorem len_nat (M : Nat) (hM : M < 18446744073709551616) (w : World) : Calls Tryz.prog 174 #[.int .u64 (M : Int)] w fun e w' =>
  e = .returned (.int .i64 ((blen M : Nat) : Int)) ∧ Below w.heap.size w w' := by
 have h := Tryz.bits_Len64 (M : Int) w (by omega) (by omega)
 rw [Int.toNat_natCast, bitLen_eq _ hM] at h
 exact Calls.below h
section
variable {B0 : Nat} {w0 w : World} {L L' : List (Nat × Obj)}
theorem of_add {bx bg p q g h x y z : Nat} (hs : xBq L bx (.cells (nl x).toArray 24) (.cells (nl z).toArray 24) L') (hg : (bg, Obj.cells (gl p q g h).toArray 26) ∈ L) (h1 : 1 < q) (hx : x < q) (hy : y < q) (hq : q < B) (hz : (x + y) % q = z) (hR : Rep B0 w0 L w) :
  Calls Tryz.prog 172 #[num y, .pointer (some ⟨bx, 0, none⟩), .pointer (some ⟨bg, 0, none⟩)] w fun e w' => e = .returned (.tuple #[]) ∧ Rep B0 w0 L' w' := by
 have c1 := madd_lit (r := z) (e := 0) (by omega : x < B) (by omega : y < B) hq (by rw [if_pos ⟨h1, hx, hy⟩]; exact hz) (if_pos ⟨h1, hx, hy⟩)
 have hm := hs.spec.1
 have tq := gl_q p q g h
 clear hz
 go_enter Tryz.func172, Tryz.ntmps172
 go_wp2_with (first | (refine' aAq hR ?_; clear hR; intro blk w hR) | (refine' aNq hR ?_) | (refine' aPq hR ?_) | (refine' aRq hR ?_; clear hR; intro w hR) | (go_at_call 173; refine (c1 _).mono ?_; rintro e w ⟨rfl, hb⟩; replace hR := hR.call hb; clear hb))
 go_end0
 exact ⟨rfl, hR.weaken (List.sublist_cons_self _ _)⟩
theorem sof_any (p q g h : Nat) (n : Int) (hq : q < B) (b0 : -9223372036854775808 ≤ n) (b1 : n < 9223372036854775808) (w : World) : Calls Tryz.prog 103 #[grp p q g h, .int .i64 n] w fun e w' =>
    e = .returned (num (sOf q n)) ∧ Below w.heap.size w w' := by
  have cb := fun w => xGb q hq w
  have tq := gl_q p q g h
  by_cases h2 : q < 2
  · have hl : (blen q : Int) < 2 := by
      have := (xBg q 1).mpr h2
      omega
    have e0 : sOf q n = 0 := by rw [xJw, if_pos h2]
    rw [e0]
    generalize (blen q : Int) = bl at *
    clear h2 e0
    have hR := Rep.init w
    go_enter Tryz.func103, Tryz.ntmps103
    go_wp2_with (first | (refine' aAq hR ?_; clear hR; intro blk w hR) | (refine' aBq hR ?_; clear hR; intro blk w hR) | (refine' aPq hR ?_) | (refine' aRq hR ?_; clear hR; intro w hR) | (go_at_call 169; refine (cb _).mono ?_; rintro e w ⟨rfl, hb⟩; replace hR := hR.call hb; clear hb))
    (refine' bodyPost_ret (xAq Tryz.results103 rfl (hR.loadAll (P := Tryz.prog) (ty := 24) ?hm ?hn)) rfl ⟨?_, hR.below⟩; (case hm => first | with_reducible assumption | repeat (first | exact .head _ | with_reducible assumption | apply mC)); (case hn => first | rfl | simp))
    rw [xBe]
  · have hl : ¬ (blen q : Int) < 2 := fun h => h2 ((xBg q 1).mp (by omega))
    have h1 : 1 < q := by omega
    have ca := fun w => amount_any n b0 b1 w
    obtain ⟨n0, hn0⟩ : ∃ n, n = 0 := ⟨_, rfl⟩
    obtain ⟨n1, hn1⟩ : ∃ n, n = 1 := ⟨_, rfl⟩
    have o0 : ∀ w, Calls Tryz.prog 171 #[.int .u64 0] w fun e w' => e = .returned (num n0) ∧ Below w.heap.size w w' := fun w => by
      rw [hn0]; exact xFh 0 (by decide) w
    have o1 : ∀ w, Calls Tryz.prog 171 #[.int .u64 1] w fun e w' => e = .returned (num n1) ∧ Below w.heap.size w w' := fun w => by
      rw [hn1]; exact xFh 1 (by decide) w
    obtain ⟨M, hM⟩ : ∃ M, n.natAbs = M := ⟨_, rfl⟩
    have lM : M < 18446744073709551616 := by omega
    obtain ⟨s, hs⟩ : ∃ s : Int, (if n < 0 then 1 else 0) = s := ⟨_, rfl⟩
    rw [hM, hs] at ca
    have cl := fun w => len_nat M lM w
    have lN : blen M ≤ 64 := (xBg _ _).mpr lM
    have lN2 := xFa M
    generalize blen M = N at *
    generalize (blen q : Int) = bl at *
    have hcase : (s = 0 ∧ xR M q 0 = sOf q n) ∨ (s = 1 ∧ subN 0 (xR M q 0) q = sOf q n) := by
      rw [xR_zero, ← hM, ← hs]
      by_cases hn : n < 0
      · rw [if_pos hn]; exact .inr ⟨rfl, sOf_neg h1 hn⟩
      · rw [if_neg hn]; exact .inl ⟨rfl, sOf_pos h1 (by omega)⟩
    have m0 : 0 ≤ (M : Int) := by omega
    have m1 : (M : Int) < 18446744073709551616 := by omega
    replace hn0 := Held.mk hn0
    replace hn1 := Held.mk hn1
    replace m1 := Held.mk m1
    clear hM hs b0 b1 h2
    generalize sOf q n = res at *
    have hR := Rep.init w
    rcases hcase with ⟨rfl, hcase⟩ | ⟨rfl, hcase⟩
    all_goals
      replace hcase := Held.mk hcase
      go_enter Tryz.func103, Tryz.ntmps103
      go_wp2_with (first | (refine' aAq hR ?_; clear hR; intro blk w hR) | (refine' aBq hR ?_; clear hR; intro blk w hR) | (refine' aPq hR ?_) | (refine' aRq hR ?_; clear hR; intro w hR) | (go_at_call 169; refine (cb _).mono ?_; rintro e w ⟨rfl, hb⟩; replace hR := hR.call hb; clear hb) | (go_at_call 170; refine (ca _).mono ?_; rintro e w ⟨rfl, hb⟩; replace hR := hR.call hb; clear hb) | (go_at_call 171; refine (o0 _).mono ?_; rintro e w ⟨rfl, hb⟩; replace hR := hR.call hb; clear hb) | (go_at_call 174; refine (cl _).mono ?_; rintro e w ⟨rfl, hb⟩; replace hR := hR.call hb; clear hb))
      rename_i K0 k0
      (first | (rename_i b4; change Nat at b4) | (rename_i b4 _; change Nat at b4) | (rename_i b4 _ _; change Nat at b4) | (rename_i b4 _ _ _; change Nat at b4) | (rename_i b4 _ _ _ _; change Nat at b4) | (rename_i b4 _ _ _ _ _; change Nat at b4) | (rename_i b4 _ _ _ _ _ _; change Nat at b4) | (rename_i b4 _ _ _ _ _ _ _; change Nat at b4) | (rename_i b4 _ _ _ _ _ _ _ _; change Nat at b4) | (rename_i b4 _ _ _ _ _ _ _ _ _; change Nat at b4) | (rename_i b4 _ _ _ _ _ _ _ _ _ _; change Nat at b4) | (rename_i b4 _ _ _ _ _ _ _ _ _ _ _; change Nat at b4) | (rename_i b4 _ _ _ _ _ _ _ _ _ _ _ _; change Nat at b4) | (rename_i b4 _ _ _ _ _ _ _ _ _ _ _ _ _; change Nat at b4))
      (first | (rename_i b2; change Nat at b2) | (rename_i b2 _; change Nat at b2) | (rename_i b2 _ _; change Nat at b2) | (rename_i b2 _ _ _; change Nat at b2) | (rename_i b2 _ _ _ _; change Nat at b2) | (rename_i b2 _ _ _ _ _; change Nat at b2) | (rename_i b2 _ _ _ _ _ _; change Nat at b2) | (rename_i b2 _ _ _ _ _ _ _; change Nat at b2) | (rename_i b2 _ _ _ _ _ _ _ _; change Nat at b2) | (rename_i b2 _ _ _ _ _ _ _ _ _; change Nat at b2) | (rename_i b2 _ _ _ _ _ _ _ _ _ _; change Nat at b2) | (rename_i b2 _ _ _ _ _ _ _ _ _ _ _; change Nat at b2) | (rename_i b2 _ _ _ _ _ _ _ _ _ _ _ _; change Nat at b2) | (rename_i b2 _ _ _ _ _ _ _ _ _ _ _ _ _; change Nat at b2))
      have e0 : xR M q N = n0 := by rw [xR_top q lN2, hn0.out]
      refine' xBm (false :: false :: false :: false :: false :: false :: false :: false :: false :: true :: false :: false :: false :: false :: false :: false :: false :: false :: false :: false :: false :: false :: false :: false :: false :: true :: true :: true :: true :: true :: true :: true :: true :: true :: true :: true :: true :: true :: true :: true :: true :: true :: true :: false :: false :: false :: false :: false :: false :: false :: false :: false :: false :: false :: []) (fun j l => l.set 24 (.int .i64 ((N : Int) - (j : Int)))) (fun j => [(blk, .cells (nl (xR M q j)).toArray 24), (b4, .cells (nl 0).toArray 24), (b2, .cells (gl p q g h).toArray 26)]) N ?h0 ?hR ?hs ?he
      case hR =>
        show Rep _ _ ((_, .cells (nl (xR M q N)).toArray _) :: _) _
        rw [e0, ← xDf]
        exact hR
      case h0 =>
        simp only [Int.sub_self]
        exact xAf rfl rfl rfl
      case hs =>
        clear hR k0 e0
        intro j tm w hj ht hR K hK
        repeat (first | (obtain ⟨x, tm', e, ht'⟩ := xAc ht; clear ht; subst e; have ht := ht'; clear ht') | (obtain ⟨tm', e, ht'⟩ := xAa ht; clear ht; subst e; have ht := ht'; clear ht'))
        obtain rfl := xAe ht
        clear ht
        obtain ⟨T, hT, hbit⟩ := xR_round M q j
        have hP := xR_lt h1 M (j + 1)
        have lT : T < q := by rw [← hT]; exact Nat.mod_lt _ (by omega)
        have l1 : n1 < q := by have := hn1.out; omega
        generalize xR M q (j + 1) = R at *
        generalize hk : (N : Int) - ((j + 1 : Nat) : Int) = k
        have k0 : 0 ≤ k := by omega
        have k1 : k < N := by omega
        have ki : (N : Int) - 1 - k = j := by omega
        have kn : k + 1 = (N : Int) - j := by omega
        have kb : (N : Int) ≤ 64 := by omega
        have kN : IntKind.i64.wrap ((N : Int) - 1) = (N : Int) - 1 := by rw [IntKind.wrap_i64]; omega
        have kj : IntKind.i64.wrap (j : Int) = (j : Int) := by rw [IntKind.wrap_i64]; omega
        have kj0 : 0 ≤ (j : Int) := by omega
        have kj1 : (j : Int) < 64 := by omega
        have hbits : bits BinOp.and IntKind.u64 ((M : Int) / 2 ^ j) 1 = ((M / 2 ^ j % 2 : Nat) : Int) := by
          have e : ((M : Int) / 2 ^ j) = ((M / 2 ^ j : Nat) : Int) := by simp
          have lm := Nat.div_le_self M (2 ^ j)
          rw [e]
          generalize M / 2 ^ j = D at lm ⊢
          rw [bits_and1 _ (by omega) (by omega)]
          omega
        clear hk lN2
        replace hT := Held.mk hT
        rcases hbit with ⟨hb, hS⟩ | ⟨hb, hS⟩
        · rw [hb] at hbits
          rw [hS] at hK
          clear hb hS
          go_wp2_with (first | (refine' aNq hR ?_) | (go_at_call 172; refine (of_add xBq.head (.tail _ (.tail _ (.head _))) h1 hP hP hq hT.out hR).mono ?_; clear hR; rintro e w ⟨rfl, hR⟩) | (go_at_call 174; refine (cl _).mono ?_; rintro e w ⟨rfl, hb⟩; replace hR := hR.call hb; clear hb))
          exact hK.out _ _ (xAf rfl rfl rfl) hR
        · rw [hb] at hbits
          have hS2 := Held.mk (show (T + n1) % q = xR M q j by rw [hn1.out]; exact hS)
          clear hb hS
          go_wp2_with (first | (refine' aNq hR ?_) | (go_at_call 172; refine (of_add xBq.head (.tail _ (.tail _ (.head _))) h1 hP hP hq hT.out hR).mono ?_; clear hR; rintro e w ⟨rfl, hR⟩) | (go_at_call 174; refine (cl _).mono ?_; rintro e w ⟨rfl, hb⟩; replace hR := hR.call hb; clear hb) | (go_at_call 171; refine (o1 _).mono ?_; rintro e w ⟨rfl, hb⟩; replace hR := hR.call hb; clear hb) | (go_at_call 172; refine (of_add xBq.head (.tail _ (.tail _ (.head _))) h1 lT l1 hq hS2.out hR).mono ?_; clear hR; rintro e w ⟨rfl, hR⟩))
          exact hK.out _ _ (xAf rfl rfl rfl) hR
      case he =>
        clear hR
        intro tm w ht hR K
        simp only [Int.natCast_zero, Int.sub_zero] at ht
        repeat (first | (obtain ⟨x, tm', e, ht'⟩ := xAc ht; clear ht; subst e; have ht := ht'; clear ht') | (obtain ⟨tm', e, ht'⟩ := xAa ht; clear ht; subst e; have ht := ht'; clear ht'))
        obtain rfl := xAe ht
        clear ht
        replace hR : Rep _ _ [(_, .cells (nl (xR M q 0)).toArray _), _, _] _ := hR
        have hP := xR_lt h1 M 0
        have c2 := fun r (hr : subN n0 (xR M q 0) q = r) => msub_lit (a := n0) (b := xR M q 0) (r := r) (e := 0) (lt_B (by have := hn0.out; omega)) (by omega) hq (by rw [if_pos ⟨h1, by have := hn0.out; omega, hP⟩]; exact hr) (if_pos ⟨h1, by have := hn0.out; omega, hP⟩)
        first
        | (rw [hcase.out] at hR
           clear c2
           go_wp2_with (first | (refine' aNq hR ?_) | (refine' aRq hR ?_; clear hR; intro w hR))
           (refine' bodyPost_ret (xAq Tryz.results103 rfl (hR.loadAll (P := Tryz.prog) (ty := 24) ?hm ?hn)) rfl ⟨?_, hR.below⟩; (case hm => first | with_reducible assumption | repeat (first | exact .head _ | with_reducible assumption | apply mC)); (case hn => first | rfl | simp))
           rfl)
        | (replace c2 := c2 res (by rw [hn0.out]; exact hcase.out)
           generalize xR M q 0 = x at *
           go_wp2_with (fail)
           refine xAd hR [0, 0, 0, 0, 0, 0, 0, 1, 2] [] xBd (by kernel_rfl) rfl rfl (fun K hK => ?_)
           clear hR
           repeat ((first | (refine xAp ?_) | (refine' xAj (by decide) rfl (.inl rfl) rfl ?ha ?_) | (refine' aOq ?ha ?_) | (refine' aSq ?ha ?_) | ((first | refine' xAt (by decide) rfl rfl rfl (fun w => ?hq) ?ha ?_ | refine' xAl (by decide) rfl rfl rfl (fun w => ?hq) ?ha ?_); (case hq => go_simp; try rfl)) | (refine' xAk rfl rfl rfl (xAi Tryz.func171 (by kernel_rfl) (by kernel_rfl) _) (fun w => o0 w) ?ha ?_) | (refine' xAk rfl rfl rfl (xAi Tryz.func175 (by kernel_rfl) (by kernel_rfl) _) (fun w => c2 w) ?ha ?_)); try (case ha => simp only [kP, kQ, kA, kB]; try rfl))
           refine xAo (hK _ _ ?_)
           clear hK K
           refine xAr (fun Q hQ => ?_)
           try simp only [List.nil_append, List.cons_append]
           repeat ((refine' aTq ?hk ?ha ?_); (case hk => intro p hp; first | exact absurd hp List.not_mem_nil | (obtain rfl := List.mem_singleton.1 hp; repeat (first | exact List.Mem.head _ | with_reducible assumption | apply mC))); (case ha => simp only [kP, kQ, kA, kB]; try rfl))
           refine xAs (fun w hR => hQ _ _ ?_)
           clear hQ Q
           go_wp2_with (first | (refine' aNq hR ?_) | (refine' aRq hR ?_; clear hR; intro w hR))
           (refine' bodyPost_ret (xAq Tryz.results103 rfl (hR.loadAll (P := Tryz.prog) (ty := 24) ?hm ?hn)) rfl ⟨?_, hR.below⟩; (case hm => first | with_reducible assumption | repeat (first | exact .head _ | with_reducible assumption | apply mC)); (case hn => first | rfl | simp))
           rfl)
end
end Go.Proofs.YtaaahfjpnggkbaaGreatDoor
