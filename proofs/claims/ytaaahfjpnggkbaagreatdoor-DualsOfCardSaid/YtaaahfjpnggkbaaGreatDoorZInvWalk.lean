import Derived.Test.YtaaahfjpnggkbaaGreatDoorZH
set_option linter.unusedSimpArgs false
set_option linter.unusedVariables false
set_option maxRecDepth 100000
set_option maxHeartbeats 20000000
namespace Go.Proofs.YtaaahfjpnggkbaaGreatDoor
open Go.RowKit
attribute [local irreducible] Calls
noncomputable def invM : Nat → Nat → Nat := opq fun a m => if Nat.gcd a m = 1 then invN a m else 0
theorem invM_yes {a m : Nat} (h : Nat.gcd a m = 1) : invM a m = invN a m := by unfold invM; rw [xBu, if_pos h]
theorem invM_no {a m : Nat} (h : Nat.gcd a m ≠ 1) : invM a m = 0 := by unfold invM; rw [xBu, if_neg h]
theorem invm_any (a b m : Nat) (ha : a < m) (hm : m < B) (h1 : 1 < m) (w : World) : Calls Tryz.prog 208 #[num a, num b, num m] w fun e w' =>
  e = .returned (num (invM a m)) ∧ Below w.heap.size w w' := by
 obtain ⟨n0, h0⟩ : ∃ n, n = 0 := ⟨_, rfl⟩
 obtain ⟨n1, hn1⟩ : ∃ n, n = 1 := ⟨_, rfl⟩
 have L1 : n1 < B := lt_B (by omega)
 have o0 : ∀ w, Calls Tryz.prog 171 #[.int .u64 0] w fun e w' => e = .returned (num n0) ∧ Below w.heap.size w w' := fun w => by
  rw [h0]; exact xFh 0 (by decide) w
 have o1 : ∀ w, Calls Tryz.prog 171 #[.int .u64 1] w fun e w' => e = .returned (num n1) ∧ Below w.heap.size w w' := fun w => by
  rw [hn1]; exact xFh 1 (by decide) w
 obtain ⟨G, hG⟩ : ∃ G, Nat.gcd a m = G := ⟨_, rfl⟩
 have LG : G < B := by rw [← hG]; exact gcd_lt_B (by omega) hm
 have cg := c_lit (r := G) (by omega : a < B) hm (by rw [xGn, hG])
 by_cases hz : G = 1
 ·rw [invM_yes (by rw [hG, hz])]
  have eg : eqN G n1 = true := xFk (by omega)
  have a0 : 1 ≤ a := by
   rcases Nat.eq_zero_or_pos a with h | h
   ·rw [h, Nat.gcd_zero_left] at hG; omega
   ·exact h
  obtain ⟨N, R, S, X, Y, k1, k2, k3, k4, k5, k6, k7, k8⟩ := xIf a m h1 a m 0 1 (by rw [Nat.gcd_comm, hG, hz]) a0 ha (Nat.le_refl _) (by omega) h1 (by rw [Nat.zero_mul, Nat.zero_mod, Nat.mod_self]) (by rw [Nat.one_mul])
  have e9 := invN_is (k7 0 (Nat.zero_le _)).2.2.2 k6
  rw [e9]
  have hR := Rep.init w
  rw [← h0] at k3
  rw [← hn1] at k4 k5
  replace hn1 := Held.mk hn1
  replace k1 := Held.mk k1
  replace k2 := Held.mk k2
  replace k3 := Held.mk k3
  replace k4 := Held.mk k4
  replace k5 := Held.mk k5
  replace k7 := Held.mk k7
  replace k8 := Held.mk k8
  clear h0 hG hz LG k6 e9
  go_enter Tryz.func208, Tryz.ntmps208
  go_wp2_with (first | (refine' aAq hR ?_; clear hR; intro blk w hR) | (refine' aBq hR ?_; clear hR; intro blk w hR) | (refine' aCq hR ?_) | (refine' aDq hR ?_) | (refine' aEq hR ?_) | (refine' aFq hR ?_; clear hR; intro w hR) | (refine' aGq hR ?_; clear hR; intro w hR) | (go_at_call 209; refine (cg _).mono ?_; rintro e w ⟨rfl, hb⟩; replace hR := hR.call hb; clear hb) | (go_at_call 171; refine (o1 _).mono ?_; rintro e w ⟨rfl, hb⟩; replace hR := hR.call hb; clear hb))
  rename_i b3 _ b4 _ b5 _ _ _ _ _
  clear cg
  refine' xHy (ts := [1, 1, 1, 1, 2, 2, 2, 2, 2, 2, 2, 2]) (R := [⟨4, 7, _, _⟩, ⟨5, 8, _, _⟩, ⟨6, 9, _, _⟩, ⟨7, 10, _, _⟩]) (r := [8, 9, 10, 11]) ?hRR xBo ?hB ?htl ?hlen ?hlen2 ?hal ?_
  case hRR => exact hR
  case hB => kernel_rfl
  case htl => rfl
  case hlen => rfl
  case hlen2 => rfl
  case hal => repeat (first | exact AllAl.nil | (refine' AllAl.cons rfl rfl (xEr rfl rfl ?z) ?_; (case z => exact inferInstance)))
  intro K hK
  clear hR
  repeat ((first | (refine xAy ?_) | (refine' xAk (by decide) rfl (.inl rfl) rfl ?ha ?_) | (refine' xAk (by decide) rfl (.inr rfl) rfl ?ha ?_) | (refine' aHq ?ha ?_) | (refine' aIq ?ha ?_) | (refine' aJq ?ha ?_) | (refine' xCh rfl rfl rfl inferInstance ?hm ?hn ?ha ?_; (case hm => first | with_reducible assumption | repeat (first | exact .head _ | apply mT)); (case hn => first | rfl | simp)) | (refine' aKq ?ha ?_) | (refine' aLq ?ha ?_) | ((first | refine' xAc (by decide) rfl rfl rfl rfl (fun w => ?hq) ?ha ?_ | refine' xAs (by decide) rfl rfl rfl rfl (fun w => ?hq) ?ha ?_ | refine' xAi (by decide) rfl rfl rfl (fun w => ?hq) ?ha ?_ | refine' xAb (by decide) rfl rfl rfl (fun w => ?hq) ?ha ?_ | refine' xAh (by decide) rfl rfl rfl (fun w => ?hq) ?ha ?_ | refine' xAq (by decide) rfl rfl rfl rfl (fun w => ?hq) ?ha ?_ | refine' xAr (by decide) rfl rfl rfl rfl rfl rfl (fun w => ?hq) ?ha ?_ | refine' xAo (by decide) rfl rfl (fun w => ?hq) ?ha ?_ | refine' xAj (by decide) rfl rfl rfl (fun w => ?hq) ?ha ?_ | refine' xAp (by decide) rfl rfl rfl (fun w => ?hq) ?ha ?_); (case hq => go_simp; try rfl)) | (refine' xAf (by decide) rfl rfl rfl ?ha ?_) | (refine' xAx (by decide) rfl rfl rfl rfl ?ha ?_) | (refine' xAw (by decide) rfl ?ha ?_) | (refine' xBx rfl rfl rfl (xAv Tryz.func171 (by kernel_rfl) (by kernel_rfl) _) (fun w => o0 w) ?ha ?_) | (refine' xBx rfl rfl rfl (xAv Tryz.func171 (by kernel_rfl) (by kernel_rfl) _) (fun w => o1 w) ?ha ?_)); try (case ha => simp only [kP, kQ, kA, kB]; try rfl))
  try simp only [List.nil_append, List.cons_append]
  refine xBb (hK _ _ (fun bs hbs => ?_))
  clear hK K
  obtain ⟨c0, c1, c2, c3, rfl⟩ := len4 hbs
  clear hbs
  simp only [putsA, exts]
  refine xBe (fun Q hQ => ?_)
  simp only [kP, kQ, kA, kB]
  repeat ((first | refine' xAm rfl (.inl rfl) rfl ?hk ?ha ?_ | refine' xAm rfl (.inr rfl) rfl ?hk ?ha ?_ | (refine' aMq ?hk ?ha ?_) | (refine' aNq ?hk ?ha ?_) | (refine' aOq ?hk ?ha ?_) | (refine' xAz rfl (fun w => ?hq) ?hk ?ha ?_; (case hq => go_simp; try rfl))); (case hk => intro p hp; repeat (first | exact hp | apply mT)); (case ha => simp only [kP, kQ, kA, kB]; try rfl))
  refine xBd (fun w hR => hQ _ _ ?_)
  clear hQ Q
  go_wp2_with (first | (refine' aAq hR ?_; clear hR; intro blk w hR) | (refine' aBq hR ?_; clear hR; intro blk w hR) | (refine' aCq hR ?_) | (refine' aDq hR ?_) | (refine' aEq hR ?_) | (refine' aFq hR ?_; clear hR; intro w hR) | (refine' aGq hR ?_; clear hR; intro w hR) | fail)
  refine' xBp (false :: false :: false :: false :: false :: false :: false :: false :: false :: false :: false :: true :: true :: true :: true :: true :: false :: false :: false :: false :: false :: false :: false :: false :: false :: false :: true :: true :: true :: true :: true :: true :: true :: true :: true :: true :: true :: true :: true :: true :: true :: true :: true :: true :: true :: true :: true :: true :: true :: true :: false :: []) (fun j l => l) (fun j => [(c3, .cells (nl (Y j)).toArray 24), (c2, .cells (nl (X j)).toArray 24), (c1, .cells (nl (S j)).toArray 24), (c0, .cells (nl (R j)).toArray 24), (blk, .cells (nl 0).toArray 24), (b5, .cells (nl m).toArray 24), (b4, .cells (nl b).toArray 24), (b3, .cells (nl a).toArray 24)]) N ?h0 ?hR ?hs ?he
  case hR =>
   show Rep _ _ [(_, .cells (nl (Y N)).toArray _), (_, .cells (nl (X N)).toArray _), (_, .cells (nl (S N)).toArray _), (_, .cells (nl (R N)).toArray _), _, _, _, _] _
   rw [k1.out, k2.out, k3.out, k4.out, ← xCx]
   exact hR
  case h0 =>
   exact xAn rfl rfl rfl
  case hs =>
   clear hR
   intro j tm w hj ht hR K hK
   repeat (first | (obtain ⟨x, tm', e, ht'⟩ := xAg ht; clear ht; subst e; have ht := ht'; clear ht') | (obtain ⟨tm', e, ht'⟩ := xAd ht; clear ht; subst e; have ht := ht'; clear ht'))
   obtain rfl := xAl ht
   clear ht
   obtain ⟨g1, g2, g3, g4, g5⟩ := k8.out j hj
   obtain ⟨l1, l2, l3, l4⟩ := k7.out (j + 1) (by omega)
   have l5 := (k7.out j (by omega)).2.1
   obtain ⟨Q, hQ⟩ : ∃ Q, R (j + 1) / S (j + 1) = Q := ⟨_, rfl⟩
   rw [hQ] at g5
   have lQ : Q < m := by
    rw [← hQ, Nat.div_lt_iff_lt_mul (by omega)]
    have := Nat.mul_le_mul_left m (show 2 ≤ S (j + 1) by omega)
    omega
   obtain ⟨T, hT⟩ : ∃ T, mulN Q (Y (j + 1)) m = T := ⟨_, rfl⟩
   have lT : T < m := by rw [← hT, xCe]; exact Nat.mod_lt _ (by omega)
   rw [hT] at g5
   have dq := d_lit (q := Q) (r := S j) (e := 0) (show R (j + 1) < B by omega) (show S (j + 1) < B by omega) (by rw [xEm, hQ]) (by rw [xEk (by omega), g3]) (by rw [if_neg (by omega)])
   have tq := fun w => xHr Q (Y (j + 1)) m lQ l4 hm w
   rw [hT] at tq
   have sq := fun w => mods_sub (X (j + 1)) T m (by omega) (by omega) hm w
   rw [if_pos ⟨h1, l3, lT⟩, if_pos ⟨h1, l3, lT⟩, ← g5] at sq
   have es : eqN (S (j + 1)) n1 = false := xDk (by omega) L1 (by have := hn1.out; omega)
   have gR := Held.mk g2
   have gX := Held.mk g4
   clear g1 g2 g3 g4 g5 l1 l2 l3 l4 l5 hQ lQ hT lT
   generalize S (j + 1) = s at *
   generalize R (j + 1) = r at *
   generalize X (j + 1) = x at *
   generalize Y (j + 1) = y at *
   go_wp2_with (first | (refine' aAq hR ?_; clear hR; intro blk w hR) | (refine' aBq hR ?_; clear hR; intro blk w hR) | (refine' aCq hR ?_) | (refine' aDq hR ?_) | (refine' aEq hR ?_) | (refine' aFq hR ?_; clear hR; intro w hR) | (refine' aGq hR ?_; clear hR; intro w hR) | fail)
   refine xAe hR [0, 0, 0] [] xBo (by kernel_rfl) rfl rfl (fun K hK => ?_)
   clear hR
   repeat ((first | (refine xAy ?_) | (refine' xAk (by decide) rfl (.inl rfl) rfl ?ha ?_) | (refine' xAk (by decide) rfl (.inr rfl) rfl ?ha ?_) | (refine' aHq ?ha ?_) | (refine' aIq ?ha ?_) | (refine' aJq ?ha ?_) | (refine' aKq ?ha ?_) | (refine' aLq ?ha ?_) | ((first | refine' xAc (by decide) rfl rfl rfl rfl (fun w => ?hq) ?ha ?_ | refine' xAs (by decide) rfl rfl rfl rfl (fun w => ?hq) ?ha ?_ | refine' xAi (by decide) rfl rfl rfl (fun w => ?hq) ?ha ?_ | refine' xAb (by decide) rfl rfl rfl (fun w => ?hq) ?ha ?_ | refine' xAh (by decide) rfl rfl rfl (fun w => ?hq) ?ha ?_ | refine' xAq (by decide) rfl rfl rfl rfl (fun w => ?hq) ?ha ?_ | refine' xAr (by decide) rfl rfl rfl rfl rfl rfl (fun w => ?hq) ?ha ?_ | refine' xAo (by decide) rfl rfl (fun w => ?hq) ?ha ?_ | refine' xAj (by decide) rfl rfl rfl (fun w => ?hq) ?ha ?_ | refine' xAp (by decide) rfl rfl rfl (fun w => ?hq) ?ha ?_); (case hq => go_simp; try rfl)) | (refine' xAf (by decide) rfl rfl rfl ?ha ?_) | (refine' xAx (by decide) rfl rfl rfl rfl ?ha ?_) | (refine' xAw (by decide) rfl ?ha ?_) | (refine' xAt rfl rfl rfl (xAv Tryz.func171 (by kernel_rfl) (by kernel_rfl) _) (fun w => o1 w) ?ha ?_)); try (case ha => simp only [kP, kQ, kA, kB]; try rfl))
   refine xBb (hK _ _ ?_)
   clear hK K
   refine xBe (fun Q hQ => ?_)
   try simp only [List.nil_append, List.cons_append]
   repeat ((first | refine' xAm rfl (.inl rfl) rfl ?hk ?ha ?_ | refine' xAm rfl (.inr rfl) rfl ?hk ?ha ?_ | (refine' aMq ?hk ?ha ?_) | (refine' aNq ?hk ?ha ?_) | (refine' aOq ?hk ?ha ?_) | (refine' xAz rfl (fun w => ?hq) ?hk ?ha ?_; (case hq => go_simp; try rfl))); (case hk => intro p hp; first | exact absurd hp List.not_mem_nil | (obtain rfl := List.mem_singleton.1 hp; repeat (first | exact List.Mem.head _ | apply mT))); (case ha => simp only [kP, kQ, kA, kB]; try rfl))
   refine xBd (fun w hR => hQ _ _ ?_)
   clear hQ Q
   go_wp2_with (first | (refine' aAq hR ?_; clear hR; intro blk w hR) | (refine' aBq hR ?_; clear hR; intro blk w hR) | (refine' aCq hR ?_) | (refine' aDq hR ?_) | (refine' aEq hR ?_) | (refine' aFq hR ?_; clear hR; intro w hR) | (refine' aGq hR ?_; clear hR; intro w hR) | (go_at_call 210; refine (dq _).mono ?_; rintro e w ⟨rfl, hb⟩; replace hR := hR.call hb; clear hb))
   refine' xCb hR [1, 1, 1, 1, 1, 1, 1, 1, 1, 1, 2, 2, 2] 10 14 _ _ [11, 12] xBo (by kernel_rfl) rfl rfl rfl rfl rfl (xEr rfl rfl ?z1) ?_
   case z1 => exact inferInstance
   intro K hK
   clear hR
   repeat ((first | (refine xAy ?_) | (refine' xAk (by decide) rfl (.inl rfl) rfl ?ha ?_) | (refine' xAk (by decide) rfl (.inr rfl) rfl ?ha ?_) | (refine' aHq ?ha ?_) | (refine' aIq ?ha ?_) | (refine' aJq ?ha ?_) | (refine' xCh rfl rfl rfl inferInstance ?hm ?hn ?ha ?_; (case hm => first | with_reducible assumption | repeat (first | exact .head _ | apply mT)); (case hn => first | rfl | simp)) | (refine' aKq ?ha ?_) | (refine' aLq ?ha ?_) | ((first | refine' xAc (by decide) rfl rfl rfl rfl (fun w => ?hq) ?ha ?_ | refine' xAs (by decide) rfl rfl rfl rfl (fun w => ?hq) ?ha ?_ | refine' xAi (by decide) rfl rfl rfl (fun w => ?hq) ?ha ?_ | refine' xAb (by decide) rfl rfl rfl (fun w => ?hq) ?ha ?_ | refine' xAh (by decide) rfl rfl rfl (fun w => ?hq) ?ha ?_ | refine' xAq (by decide) rfl rfl rfl rfl (fun w => ?hq) ?ha ?_ | refine' xAr (by decide) rfl rfl rfl rfl rfl rfl (fun w => ?hq) ?ha ?_ | refine' xAo (by decide) rfl rfl (fun w => ?hq) ?ha ?_ | refine' xAj (by decide) rfl rfl rfl (fun w => ?hq) ?ha ?_ | refine' xAp (by decide) rfl rfl rfl (fun w => ?hq) ?ha ?_); (case hq => go_simp; try rfl)) | (refine' xAf (by decide) rfl rfl rfl ?ha ?_) | (refine' xAx (by decide) rfl rfl rfl rfl ?ha ?_) | (refine' xAw (by decide) rfl ?ha ?_) | (refine' xBx rfl rfl rfl (xAv Tryz.func207 (by kernel_rfl) (by kernel_rfl) _) (fun w => tq w) ?ha ?_) | (refine' xBx rfl rfl rfl (xAv Tryz.func175 (by kernel_rfl) (by kernel_rfl) _) (fun w => sq w) ?ha ?_)); try (case ha => simp only [kP, kQ, kA, kB]; try rfl))
   try simp only [List.nil_append, List.cons_append]
   refine xBb (hK _ _ (fun _ => ?_))
   clear hK K
   refine xBe (fun Q hQ => ?_)
   simp only [kP, kQ, kA, kB]
   repeat ((first | refine' xAm rfl (.inl rfl) rfl ?hk ?ha ?_ | refine' xAm rfl (.inr rfl) rfl ?hk ?ha ?_ | (refine' aMq ?hk ?ha ?_) | (refine' aNq ?hk ?ha ?_) | (refine' aOq ?hk ?ha ?_) | (refine' xAz rfl (fun w => ?hq) ?hk ?ha ?_; (case hq => go_simp; try rfl))); (case hk => intro p hp; repeat (first | exact hp | apply mT)); (case ha => simp only [kP, kQ, kA, kB]; try rfl))
   refine xBd (fun w hR => hQ _ _ ?_)
   clear hQ Q
   go_wp2_with (first | (refine' aAq hR ?_; clear hR; intro blk w hR) | (refine' aBq hR ?_; clear hR; intro blk w hR) | (refine' aCq hR ?_) | (refine' aDq hR ?_) | (refine' aEq hR ?_) | (refine' aFq hR ?_; clear hR; intro w hR) | (refine' aGq hR ?_; clear hR; intro w hR) | fail)
   rename_i bz
   refine' xIq hR 4 [[(c1, .cells (nl s).toArray 24)], [(blk, .cells (nl (S j)).toArray 24)], [(c3, .cells (nl y).toArray 24)], [(bz, .cells (nl (Y j)).toArray 24)]] xBo rfl (by kernel_rfl) ?hL ?_
   case hL =>
    intro kp hkp p hp
    simp only [List.mem_cons, List.not_mem_nil, or_false] at hkp
    rcases hkp with rfl | rfl | rfl | rfl <;> (obtain rfl := List.mem_singleton.1 hp; repeat (first | exact List.Mem.head _ | apply mT))
   clear hR
   simp only [List.take_succ_cons, List.take_zero, List.drop_succ_cons, List.drop_zero, List.length_cons, List.length_nil]
   repeat (first | (refine' hv_loadAll rfl rfl rfl ?hT ?hm ?hn ?ha ?_; (case hT => exact inferInstance); (case hm => exact .head _); (case hn => first | rfl | simp); (case ha => simp only [kP, kQ, kA, kB]; try rfl)))
   refine hv_nil ?_
   repeat (first | (refine' tv_storeAll rfl rfl rfl ?hT rfl ?hs rfl rfl ?hn ?hk ?ha ?_; (case hT => exact inferInstance); (case hs => repeat (first | exact xBq.head | apply xBq.tail)); (case hn => first | rfl | simp); (case hk => intro k p hwt hp; rcases k with _ | _ | _ | _ | k; all_goals first | (exfalso; simp at hp; done) | (obtain rfl := List.mem_singleton.1 hp; (repeat (first | exact List.Mem.head _ | apply mT)); done) | (have hcc := hwt.symm.trans (show xIs _ _ _ = true by kernel_rfl); exact absurd hcc (by decide))); (case ha => simp only [kP, kQ, kA, kB]; try rfl)))
   refine tv_nil (fun w hR => ?_)
   go_wp2_with (first | (refine' aAq hR ?_; clear hR; intro blk w hR) | (refine' aBq hR ?_; clear hR; intro blk w hR) | (refine' aCq hR ?_) | (refine' aDq hR ?_) | (refine' aEq hR ?_) | (refine' aFq hR ?_; clear hR; intro w hR) | (refine' aGq hR ?_; clear hR; intro w hR) | fail)
   refine hK.out _ _ (xAn rfl rfl rfl) ?_
   show Rep _ _ ((_, .cells (nl (Y j)).toArray _) :: (_, .cells (nl (X j)).toArray _) :: (_, .cells (nl (S j)).toArray _) :: (_, .cells (nl (R j)).toArray _) :: _) _
   rw [gR.out, gX.out]
   exact hR.weaken (List.sublist_append_right [_, _, _] _)
  case he =>
   clear hR
   intro tm w ht hR K
   repeat (first | (obtain ⟨x, tm', e, ht'⟩ := xAg ht; clear ht; subst e; have ht := ht'; clear ht') | (obtain ⟨tm', e, ht'⟩ := xAd ht; clear ht; subst e; have ht := ht'; clear ht'))
   obtain rfl := xAl ht
   clear ht
   have e1 : eqN (S 0) n1 = true := xFk k5.out
   go_wp2_with (first | (refine' aAq hR ?_; clear hR; intro blk w hR) | (refine' aBq hR ?_; clear hR; intro blk w hR) | (refine' aCq hR ?_) | (refine' aDq hR ?_) | (refine' aEq hR ?_) | (refine' aFq hR ?_; clear hR; intro w hR) | (refine' aGq hR ?_; clear hR; intro w hR) | fail)
   refine xAe hR [0, 0, 0] [] xBo (by kernel_rfl) rfl rfl (fun K hK => ?_)
   clear hR
   repeat ((first | (refine xAy ?_) | (refine' xAk (by decide) rfl (.inl rfl) rfl ?ha ?_) | (refine' xAk (by decide) rfl (.inr rfl) rfl ?ha ?_) | (refine' aHq ?ha ?_) | (refine' aIq ?ha ?_) | (refine' aJq ?ha ?_) | (refine' aKq ?ha ?_) | (refine' aLq ?ha ?_) | ((first | refine' xAc (by decide) rfl rfl rfl rfl (fun w => ?hq) ?ha ?_ | refine' xAs (by decide) rfl rfl rfl rfl (fun w => ?hq) ?ha ?_ | refine' xAi (by decide) rfl rfl rfl (fun w => ?hq) ?ha ?_ | refine' xAb (by decide) rfl rfl rfl (fun w => ?hq) ?ha ?_ | refine' xAh (by decide) rfl rfl rfl (fun w => ?hq) ?ha ?_ | refine' xAq (by decide) rfl rfl rfl rfl (fun w => ?hq) ?ha ?_ | refine' xAr (by decide) rfl rfl rfl rfl rfl rfl (fun w => ?hq) ?ha ?_ | refine' xAo (by decide) rfl rfl (fun w => ?hq) ?ha ?_ | refine' xAj (by decide) rfl rfl rfl (fun w => ?hq) ?ha ?_ | refine' xAp (by decide) rfl rfl rfl (fun w => ?hq) ?ha ?_); (case hq => go_simp; try rfl)) | (refine' xAf (by decide) rfl rfl rfl ?ha ?_) | (refine' xAx (by decide) rfl rfl rfl rfl ?ha ?_) | (refine' xAw (by decide) rfl ?ha ?_) | (refine' xAt rfl rfl rfl (xAv Tryz.func171 (by kernel_rfl) (by kernel_rfl) _) (fun w => o1 w) ?ha ?_)); try (case ha => simp only [kP, kQ, kA, kB]; try rfl))
   refine xBb (hK _ _ ?_)
   clear hK K
   refine xBe (fun Q hQ => ?_)
   try simp only [List.nil_append, List.cons_append]
   repeat ((first | refine' xAm rfl (.inl rfl) rfl ?hk ?ha ?_ | refine' xAm rfl (.inr rfl) rfl ?hk ?ha ?_ | (refine' aMq ?hk ?ha ?_) | (refine' aNq ?hk ?ha ?_) | (refine' aOq ?hk ?ha ?_) | (refine' xAz rfl (fun w => ?hq) ?hk ?ha ?_; (case hq => go_simp; try rfl))); (case hk => intro p hp; first | exact absurd hp List.not_mem_nil | (obtain rfl := List.mem_singleton.1 hp; repeat (first | exact List.Mem.head _ | apply mT))); (case ha => simp only [kP, kQ, kA, kB]; try rfl))
   refine xBd (fun w hR => hQ _ _ ?_)
   clear hQ Q
   go_wp2_with (first | (refine' aAq hR ?_; clear hR; intro blk w hR) | (refine' aBq hR ?_; clear hR; intro blk w hR) | (refine' aCq hR ?_) | (refine' aDq hR ?_) | (refine' aEq hR ?_) | (refine' aFq hR ?_; clear hR; intro w hR) | (refine' aGq hR ?_; clear hR; intro w hR) | fail)
   (refine' bodyPost_ret (xBc Tryz.results208 rfl (hR.loadAll (P := Tryz.prog) (ty := 24) ?hm ?hn)) rfl ⟨?_, hR.below⟩; (case hm => first | with_reducible assumption | repeat (first | exact .head _ | apply mT)); (case hn => first | rfl | simp))
   rfl
 ·rw [invM_no (by rw [hG]; exact hz)]
  have eg : eqN G n1 = false := xDk LG L1 (by omega)
  clear h0 hG hz LG L1 hn1
  have hR := Rep.init w
  go_enter Tryz.func208, Tryz.ntmps208
  go_wp2_with (first | (refine' aAq hR ?_; clear hR; intro blk w hR) | (refine' aBq hR ?_; clear hR; intro blk w hR) | (refine' aCq hR ?_) | (refine' aDq hR ?_) | (refine' aEq hR ?_) | (refine' aFq hR ?_; clear hR; intro w hR) | (refine' aGq hR ?_; clear hR; intro w hR) | (go_at_call 209; refine (cg _).mono ?_; rintro e w ⟨rfl, hb⟩; replace hR := hR.call hb; clear hb) | (go_at_call 171; refine (o1 _).mono ?_; rintro e w ⟨rfl, hb⟩; replace hR := hR.call hb; clear hb))
  (refine' bodyPost_ret (xBc Tryz.results208 rfl (hR.loadAll (P := Tryz.prog) (ty := 24) ?hm ?hn)) rfl ⟨?_, hR.below⟩; (case hm => first | with_reducible assumption | repeat (first | exact .head _ | apply mT)); (case hn => first | rfl | simp))
  rw [xBn]
end Go.Proofs.YtaaahfjpnggkbaaGreatDoor
