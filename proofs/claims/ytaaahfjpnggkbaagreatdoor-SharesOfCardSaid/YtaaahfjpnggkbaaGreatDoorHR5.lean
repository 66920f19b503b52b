import Derived.Test.YtaaahfjpnggkbaaGreatDoorHDA
import Derived.Test.YtaaahfjpnggkbaaGreatDoorHD
import Derived.Test.YtaaahfjpnggkbaaGreatDoorHR4
import Derived.Test.YtaaahfjpnggkbaaGreatDoorHM
set_option linter.unusedSimpArgs false
set_option linter.unusedVariables false
set_option maxRecDepth 100000
set_option maxHeartbeats 20000000
namespace Go.Proofs.YtaaahfjpnggkbaaGreatDoor
open Go.RowKit
section
attribute [local irreducible] Calls
theorem wd_addbit_at (Q j i : Nat) (hQ : Q % 2 ^ (j + 1) = 0) (hj : j / 64 = i) : IntKind.u64.wrap (wd Q i + IntKind.u64.wrap (1 * 2 ^ (j % 64))) = wd (Q + 1 * 2 ^ j) i := by
 rw [xDe, xDe]
 obtain ⟨t, rfl⟩ := Nat.dvd_of_mod_eq_zero hQ
 have pw : 18446744073709551616 ^ i = 2 ^ (64 * i) := by rw [Nat.pow_mul]
 have e0 : j = 64 * i + j % 64 := by omega
 have l : j % 64 < 64 := Nat.mod_lt _ (by decide)
 generalize j % 64 = e at *
 subst e0
 have hp : 2 ^ (64 * i + e + 1) = 2 ^ (64 * i) * 2 ^ (e + 1) := by rw [Nat.add_assoc, Nat.pow_add]
 have hp2 : 2 ^ (64 * i + e) = 2 ^ (64 * i) * 2 ^ e := by rw [Nat.pow_add]
 have es : 1 * 2 ^ e < 2 ^ (e + 1) := by
  rw [Nat.pow_succ, Nat.mul_comm]
  exact Nat.mul_lt_mul_of_pos_left (by decide) (Nat.two_pow_pos _)
 have el : 2 ^ (e + 1) ∣ 2 ^ 64 := Nat.pow_dvd_pow 2 (by omega)
 have ew : 1 * 2 ^ e < 2 ^ 64 := Nat.lt_of_lt_of_le es (Nat.le_of_dvd (by decide) el)
 have c : IntKind.u64.wrap (1 * (2 : Int) ^ e) = ((1 * 2 ^ e : Nat) : Int) := by
  rw [IntKind.wrap_u64]
  have : (1 * (2 : Int) ^ e) = ((1 * 2 ^ e : Nat) : Int) := by simp
  rw [this]
  omega
 have d1 : 2 ^ (64 * i) * 2 ^ (e + 1) * t / 2 ^ (64 * i) = 2 ^ (e + 1) * t := by rw [Nat.mul_assoc, Nat.mul_div_cancel_left _ (Nat.two_pow_pos _)]
 have d2 : (2 ^ (64 * i) * 2 ^ (e + 1) * t + 1 * (2 ^ (64 * i) * 2 ^ e)) / 2 ^ (64 * i) = 2 ^ (e + 1) * t + 1 * 2 ^ e := by
  rw [show 2 ^ (64 * i) * 2 ^ (e + 1) * t + 1 * (2 ^ (64 * i) * 2 ^ e) = 2 ^ (64 * i) * (2 ^ (e + 1) * t + 1 * 2 ^ e) by grind, Nat.mul_div_cancel_left _ (Nat.two_pow_pos _)]
 rw [pw, hp, hp2, c, d1, d2]
 obtain ⟨g, hg⟩ := el
 have m1 : 2 ^ (e + 1) * t % 18446744073709551616 = 2 ^ (e + 1) * (t % g) := by
  rw [show (18446744073709551616 : Nat) = 2 ^ 64 from rfl, hg, Nat.mul_mod_mul_left]
 have m2 : (2 ^ (e + 1) * t + 1 * 2 ^ e) % 18446744073709551616 = 2 ^ (e + 1) * (t % g) + 1 * 2 ^ e := by
  rw [show (18446744073709551616 : Nat) = 2 ^ 64 from rfl, hg, Nat.mod_mul, Nat.mul_add_div (Nat.two_pow_pos _), Nat.div_eq_of_lt es, Nat.mul_add_mod, Nat.mod_eq_of_lt es, Nat.add_zero]
  exact Nat.add_comm _ _
 have m3 : (2 ^ (e + 1) * t + 1 * 2 ^ e) % 18446744073709551616 < 18446744073709551616 := Nat.mod_lt _ (by decide)
 rw [m1, m2, IntKind.wrap_u64]
 rw [m2] at m3
 generalize 2 ^ (e + 1) * (t % g) = A at *
 generalize 1 * 2 ^ e = D at *
 omega
theorem nl_addbit (Q j : Nat) (hj : j < 256) (hQ : Q % 2 ^ (j + 1) = 0) :
  (nl Q).set (j / 64) (.int .u64 (IntKind.u64.wrap (wd Q (j / 64) + IntKind.u64.wrap (1 * 2 ^ (j % 64))))) = nl (Q + 1 * 2 ^ j) := by
 rw [wd_addbit_at Q j _ hQ rfl]
 have k : ∀ i, j / 64 ≠ i → wd (Q + 1 * 2 ^ j) i = wd Q i := fun i => wd_setbit Q 1 j i (by decide) hQ
 have : j / 64 = 0 ∨ j / 64 = 1 ∨ j / 64 = 2 ∨ j / 64 = 3 := by omega
 rcases this with h | h | h | h <;> rw [h] at k ⊢ <;> unfold nl <;> simp only [kA, kB]
 ·rw [k 1 (by decide), k 2 (by decide), k 3 (by decide)]
 ·rw [k 0 (by decide), k 2 (by decide), k 3 (by decide)]
 ·rw [k 0 (by decide), k 1 (by decide), k 3 (by decide)]
 ·rw [k 0 (by decide), k 1 (by decide), k 2 (by decide)]
theorem refDiv_none (a : Nat) (ha : a < B) (w : World) : Calls Tryz.prog 130 #[num a, num 0] w fun e w' =>
  e = .returned (.tuple #[num 0, num 0, .int .i64 1]) ∧ Below w.heap.size w w' := by
 have z := xDm 0
 have hR := Rep.init w
 go_enter Tryz.func130, Tryz.ntmps130
 go_wp2_with (first | (refine' aAq hR ?_; clear hR; intro blk w hR) | (refine' aBq hR ?_; clear hR; intro blk w hR) | (refine' aEq hR ?_) | (refine' aFq hR ?_; clear hR; intro w hR))
 (refine' bodyPost_ret (xDw Tryz.results130 rfl (hR.loadAll (P := Tryz.prog) (ty := 24) ?hm ?hn) rfl (hR.loadAll (P := Tryz.prog) (ty := 24) ?hm2 ?hn2)) rfl ⟨?_, hR.below⟩; (case hm => first | with_reducible assumption | repeat (first | exact .head _ | apply mT)); (case hn => first | rfl | simp); (case hm2 => first | with_reducible assumption | repeat (first | exact .head _ | apply mT)); (case hn2 => first | rfl | simp))
 rw [xBe]
 rfl
theorem refDiv_short (a b : Nat) (h0 : b ≠ 0) (ha : a < 18446744073709551616) (hb : b < 18446744073709551616) (w : World) : Calls Tryz.prog 130 #[num a, num b] w fun e w' =>
  e = .returned (.tuple #[num (quo0 a b), num (rem0 a b), .int .i64 0]) ∧ Below w.heap.size w w' := by
 have z := xDq (lt_B hb) xEy h0
 have ca := xCj a (lt_B ha)
 have cb := xCj b (lt_B hb)
 rw [decide_eq_true ha] at ca
 rw [decide_eq_true hb] at cb
 have ea : wd a 0 = (a : Int) := by rw [xFm]; unfold w64; omega
 have eb : wd b 0 = (b : Int) := by rw [xFm]; unfold w64; omega
 have cq := xCw (quo0 a b) (by rw [xEw]; exact Nat.lt_of_le_of_lt (Nat.div_le_self _ _) ha)
 have cr := xCw (rem0 a b) (by rw [xEs h0]; exact Nat.lt_trans (Nat.mod_lt _ (by omega)) hb)
 have eq : (a : Int) / (b : Int) = (quo0 a b : Int) := by rw [xEw]; simp
 have er : (a : Int).tmod (b : Int) = (rem0 a b : Int) := by rw [xEs h0, Int.tmod_eq_emod_of_nonneg (by omega)]; simp
 have eb0 : ((b : Int) == 0) = false := by simp [h0]
 have eb1 : ¬ (b : Int) = 0 := by omega
 have ea0 : 0 ≤ (a : Int) := by omega
 have eq0 : 0 ≤ (quo0 a b : Int) := by omega
 have eq1 : (quo0 a b : Int) < 18446744073709551616 := by
  have := Nat.lt_of_le_of_lt (Nat.div_le_self a b) ha
  rw [xEw]; omega
 have eq2 : IntKind.u64.wrap (quo0 a b : Int) = (quo0 a b : Int) := by rw [IntKind.wrap_u64]; omega
 generalize quo0 a b = q at *
 generalize rem0 a b = r at *
 have hR := Rep.init w
 go_enter Tryz.func130, Tryz.ntmps130
 go_wp2_with (first | (refine' aAq hR ?_; clear hR; intro blk w hR) | (refine' aBq hR ?_; clear hR; intro blk w hR) | (refine' aEq hR ?_) | (refine' aCr hR ?_) | (go_at_call 195; refine (ca _).mono ?_; rintro e w ⟨rfl, hb⟩; replace hR := hR.call hb; clear hb) | (go_at_call 195; refine (cb _).mono ?_; rintro e w ⟨rfl, hb⟩; replace hR := hR.call hb; clear hb))
 refine xAd hR [0, 0, 0, 0, 0, 0, 0, 0, 0, 0, 0, 0, 2, 2, 2] [] xBd (by kernel_rfl) rfl rfl (fun K hK => ?_)
 clear hR
 repeat ((first | (refine xAp ?_) | (refine' aCq ?ha ?_) | ((first | refine' xAg (by decide) rfl rfl rfl rfl (fun w => ?hq) ?ha ?_ | refine' xAm (by decide) rfl rfl rfl rfl (fun w => ?hq) ?ha ?_); (case hq => go_simp; try rfl)) | (refine' xAk rfl rfl rfl (xAi Tryz.func131 (by kernel_rfl) (by kernel_rfl) _) (fun w => cq w) ?ha ?_) | (refine' xAk rfl rfl rfl (xAi Tryz.func131 (by kernel_rfl) (by kernel_rfl) _) (fun w => cr w) ?ha ?_)); try (case ha => simp only [kP, kQ, kA, kB]; try rfl))
 refine xAo (hK _ _ ?_)
 clear hK K
 refine xAr (fun Q hQ => ?_)
 try simp only [List.nil_append, List.cons_append]
 repeat ((first | refine' xBf rfl (.inr rfl) rfl ?hk ?ha ?_ | (refine' aKq ?hk ?ha ?_)); (case hk => intro p hp; first | exact absurd hp List.not_mem_nil | (obtain rfl := List.mem_singleton.1 hp; repeat (first | exact List.Mem.head _ | apply mT))); (case ha => simp only [kP, kQ, kA, kB]; try rfl))
 refine xAs (fun w hR => hQ _ _ ?_)
 clear hQ Q
 go_wp2_with (fail)
 (refine' bodyPost_ret (xDw Tryz.results130 rfl (hR.loadAll (P := Tryz.prog) (ty := 24) ?hm ?hn) rfl (hR.loadAll (P := Tryz.prog) (ty := 24) ?hm2 ?hn2)) rfl ⟨?_, hR.below⟩; (case hm => first | with_reducible assumption | repeat (first | exact .head _ | apply mT)); (case hn => first | rfl | simp); (case hm2 => first | with_reducible assumption | repeat (first | exact .head _ | apply mT)); (case hn2 => first | rfl | simp))
 rfl
theorem refDiv_long (a b : Nat) (ha : a < B) (hb : b < B) (h0 : b ≠ 0) (hs : ¬ (a < 18446744073709551616 ∧ b < 18446744073709551616)) (w : World) : Calls Tryz.prog 130 #[num a, num b] w fun e w' =>
  e = .returned (.tuple #[num (quo0 a b), num (rem0 a b), .int .i64 0]) ∧ Below w.heap.size w w' := by
 have z := xDq hb xEy h0
 have ca := xCj a ha
 have cb := xCj b hb
 have a256 : a < 2 ^ 256 := by rw [B_eq] at ha; exact ha
 have hR := Rep.init w
 go_enter Tryz.func130, Tryz.ntmps130
 by_cases hsa : a < 18446744073709551616
 case' pos =>
  have hsb : ¬ b < 18446744073709551616 := fun h => hs ⟨hsa, h⟩
  rw [decide_eq_true hsa] at ca
  rw [decide_eq_false hsb] at cb
  go_wp2_with (first | (refine' aAq hR ?_; clear hR; intro blk w hR) | (refine' aBq hR ?_; clear hR; intro blk w hR) | (refine' aEq hR ?_) | (refine' aCr hR ?_) | (go_at_call 195; refine (ca _).mono ?_; rintro e w ⟨rfl, hb⟩; replace hR := hR.call hb; clear hb) | (go_at_call 195; refine (cb _).mono ?_; rintro e w ⟨rfl, hb⟩; replace hR := hR.call hb; clear hb))
 case' neg =>
  rw [decide_eq_false hsa] at ca
  go_wp2_with (first | (refine' aAq hR ?_; clear hR; intro blk w hR) | (refine' aBq hR ?_; clear hR; intro blk w hR) | (refine' aEq hR ?_) | (go_at_call 195; refine (ca _).mono ?_; rintro e w ⟨rfl, hb⟩; replace hR := hR.call hb; clear hb))
 all_goals
  clear z ca cb
  (first | (rename_i bq; change Nat at bq) | (rename_i bq _; change Nat at bq) | (rename_i bq _ _; change Nat at bq) | (rename_i bq _ _ _; change Nat at bq) | (rename_i bq _ _ _ _; change Nat at bq) | (rename_i bq _ _ _ _ _; change Nat at bq) | (rename_i bq _ _ _ _ _ _; change Nat at bq) | (rename_i bq _ _ _ _ _ _ _; change Nat at bq) | (rename_i bq _ _ _ _ _ _ _ _; change Nat at bq) | (rename_i bq _ _ _ _ _ _ _ _ _; change Nat at bq) | (rename_i bq _ _ _ _ _ _ _ _ _ _; change Nat at bq) | (rename_i bq _ _ _ _ _ _ _ _ _ _ _; change Nat at bq) | (rename_i bq _ _ _ _ _ _ _ _ _ _ _ _; change Nat at bq) | (rename_i bq _ _ _ _ _ _ _ _ _ _ _ _ _; change Nat at bq) | (rename_i bq _ _ _ _ _ _ _ _ _ _ _ _ _ _; change Nat at bq) | (rename_i bq _ _ _ _ _ _ _ _ _ _ _ _ _ _ _; change Nat at bq) | (rename_i bq _ _ _ _ _ _ _ _ _ _ _ _ _ _ _ _; change Nat at bq) | (rename_i bq _ _ _ _ _ _ _ _ _ _ _ _ _ _ _ _ _; change Nat at bq) | (rename_i bq _ _ _ _ _ _ _ _ _ _ _ _ _ _ _ _ _ _; change Nat at bq) | (rename_i bq _ _ _ _ _ _ _ _ _ _ _ _ _ _ _ _ _ _ _; change Nat at bq))
  (first | (rename_i c2; change Nat at c2) | (rename_i c2 _; change Nat at c2) | (rename_i c2 _ _; change Nat at c2) | (rename_i c2 _ _ _; change Nat at c2) | (rename_i c2 _ _ _ _; change Nat at c2) | (rename_i c2 _ _ _ _ _; change Nat at c2) | (rename_i c2 _ _ _ _ _ _; change Nat at c2) | (rename_i c2 _ _ _ _ _ _ _; change Nat at c2) | (rename_i c2 _ _ _ _ _ _ _ _; change Nat at c2) | (rename_i c2 _ _ _ _ _ _ _ _ _; change Nat at c2) | (rename_i c2 _ _ _ _ _ _ _ _ _ _; change Nat at c2) | (rename_i c2 _ _ _ _ _ _ _ _ _ _ _; change Nat at c2) | (rename_i c2 _ _ _ _ _ _ _ _ _ _ _ _; change Nat at c2) | (rename_i c2 _ _ _ _ _ _ _ _ _ _ _ _ _; change Nat at c2) | (rename_i c2 _ _ _ _ _ _ _ _ _ _ _ _ _ _; change Nat at c2) | (rename_i c2 _ _ _ _ _ _ _ _ _ _ _ _ _ _ _; change Nat at c2) | (rename_i c2 _ _ _ _ _ _ _ _ _ _ _ _ _ _ _ _; change Nat at c2) | (rename_i c2 _ _ _ _ _ _ _ _ _ _ _ _ _ _ _ _ _; change Nat at c2) | (rename_i c2 _ _ _ _ _ _ _ _ _ _ _ _ _ _ _ _ _ _; change Nat at c2) | (rename_i c2 _ _ _ _ _ _ _ _ _ _ _ _ _ _ _ _ _ _ _; change Nat at c2))
  (first | (rename_i c1; change Nat at c1) | (rename_i c1 _; change Nat at c1) | (rename_i c1 _ _; change Nat at c1) | (rename_i c1 _ _ _; change Nat at c1) | (rename_i c1 _ _ _ _; change Nat at c1) | (rename_i c1 _ _ _ _ _; change Nat at c1) | (rename_i c1 _ _ _ _ _ _; change Nat at c1) | (rename_i c1 _ _ _ _ _ _ _; change Nat at c1) | (rename_i c1 _ _ _ _ _ _ _ _; change Nat at c1) | (rename_i c1 _ _ _ _ _ _ _ _ _; change Nat at c1) | (rename_i c1 _ _ _ _ _ _ _ _ _ _; change Nat at c1) | (rename_i c1 _ _ _ _ _ _ _ _ _ _ _; change Nat at c1) | (rename_i c1 _ _ _ _ _ _ _ _ _ _ _ _; change Nat at c1) | (rename_i c1 _ _ _ _ _ _ _ _ _ _ _ _ _; change Nat at c1) | (rename_i c1 _ _ _ _ _ _ _ _ _ _ _ _ _ _; change Nat at c1) | (rename_i c1 _ _ _ _ _ _ _ _ _ _ _ _ _ _ _; change Nat at c1) | (rename_i c1 _ _ _ _ _ _ _ _ _ _ _ _ _ _ _ _; change Nat at c1) | (rename_i c1 _ _ _ _ _ _ _ _ _ _ _ _ _ _ _ _ _; change Nat at c1) | (rename_i c1 _ _ _ _ _ _ _ _ _ _ _ _ _ _ _ _ _ _; change Nat at c1) | (rename_i c1 _ _ _ _ _ _ _ _ _ _ _ _ _ _ _ _ _ _ _; change Nat at c1))
  (first | (rename_i bb; change Nat at bb) | (rename_i bb _; change Nat at bb) | (rename_i bb _ _; change Nat at bb) | (rename_i bb _ _ _; change Nat at bb) | (rename_i bb _ _ _ _; change Nat at bb) | (rename_i bb _ _ _ _ _; change Nat at bb) | (rename_i bb _ _ _ _ _ _; change Nat at bb) | (rename_i bb _ _ _ _ _ _ _; change Nat at bb) | (rename_i bb _ _ _ _ _ _ _ _; change Nat at bb) | (rename_i bb _ _ _ _ _ _ _ _ _; change Nat at bb) | (rename_i bb _ _ _ _ _ _ _ _ _ _; change Nat at bb) | (rename_i bb _ _ _ _ _ _ _ _ _ _ _; change Nat at bb) | (rename_i bb _ _ _ _ _ _ _ _ _ _ _ _; change Nat at bb) | (rename_i bb _ _ _ _ _ _ _ _ _ _ _ _ _; change Nat at bb) | (rename_i bb _ _ _ _ _ _ _ _ _ _ _ _ _ _; change Nat at bb) | (rename_i bb _ _ _ _ _ _ _ _ _ _ _ _ _ _ _; change Nat at bb) | (rename_i bb _ _ _ _ _ _ _ _ _ _ _ _ _ _ _ _; change Nat at bb) | (rename_i bb _ _ _ _ _ _ _ _ _ _ _ _ _ _ _ _ _; change Nat at bb) | (rename_i bb _ _ _ _ _ _ _ _ _ _ _ _ _ _ _ _ _ _; change Nat at bb) | (rename_i bb _ _ _ _ _ _ _ _ _ _ _ _ _ _ _ _ _ _ _; change Nat at bb))
  (first | (rename_i ba; change Nat at ba) | (rename_i ba _; change Nat at ba) | (rename_i ba _ _; change Nat at ba) | (rename_i ba _ _ _; change Nat at ba) | (rename_i ba _ _ _ _; change Nat at ba) | (rename_i ba _ _ _ _ _; change Nat at ba) | (rename_i ba _ _ _ _ _ _; change Nat at ba) | (rename_i ba _ _ _ _ _ _ _; change Nat at ba) | (rename_i ba _ _ _ _ _ _ _ _; change Nat at ba) | (rename_i ba _ _ _ _ _ _ _ _ _; change Nat at ba) | (rename_i ba _ _ _ _ _ _ _ _ _ _; change Nat at ba) | (rename_i ba _ _ _ _ _ _ _ _ _ _ _; change Nat at ba) | (rename_i ba _ _ _ _ _ _ _ _ _ _ _ _; change Nat at ba) | (rename_i ba _ _ _ _ _ _ _ _ _ _ _ _ _; change Nat at ba) | (rename_i ba _ _ _ _ _ _ _ _ _ _ _ _ _ _; change Nat at ba) | (rename_i ba _ _ _ _ _ _ _ _ _ _ _ _ _ _ _; change Nat at ba) | (rename_i ba _ _ _ _ _ _ _ _ _ _ _ _ _ _ _ _; change Nat at ba) | (rename_i ba _ _ _ _ _ _ _ _ _ _ _ _ _ _ _ _ _; change Nat at ba) | (rename_i ba _ _ _ _ _ _ _ _ _ _ _ _ _ _ _ _ _ _; change Nat at ba) | (rename_i ba _ _ _ _ _ _ _ _ _ _ _ _ _ _ _ _ _ _ _; change Nat at ba))
  refine' xBm (false :: false :: false :: false :: false :: false :: false :: false :: false :: false :: true :: true :: false :: false :: false :: false :: false :: false :: false :: false :: false :: false :: false :: false :: false :: false :: false :: false :: false :: false :: false :: false :: false :: false :: false :: true :: true :: true :: true :: true :: true :: true :: true :: true :: true :: true :: true :: true :: true :: true :: true :: true :: true :: true :: true :: true :: true :: true :: true :: true :: true :: true :: true :: true :: true :: true :: true :: true :: true :: true :: true :: true :: true :: true :: true :: true :: true :: true :: false :: false :: []) (fun j l => l.set 9 (.int .i64 ((j : Int) - 1))) (fun j => [(blk, .cells (nl (rN a b j)).toArray 24), (bq, .cells (nl (qN a b j)).toArray 24), (c2, .cells (nl 0).toArray 24), (c1, .cells (nl 0).toArray 24), (bb, .cells (nl b).toArray 24), (ba, .cells (nl a).toArray 24)]) 256 ?h0 ?hR ?hs ?he
  case hR =>
   show Rep _ _ [(_, .cells (nl (rN a b 256)).toArray _), (_, .cells (nl (qN a b 256)).toArray _), _, _, _, _] _
   rw [rN_top a256, qN_top a256, ← xDf]
   exact hR
  case h0 => exact xAf rfl rfl rfl
  case hs =>
   clear hR
   intro j tm w hj ht hR K hK
   repeat (first | (obtain ⟨x, tm', e, ht'⟩ := xAc ht; clear ht; subst e; have ht := ht'; clear ht') | (obtain ⟨tm', e, ht'⟩ := xAa ht; clear ht; subst e; have ht := ht'; clear ht'))
   obtain rfl := xAe ht
   clear ht
   obtain ⟨bit, S, hbit, hS, ebit, hRb, er, eS, hQ, eq⟩ := div_round a b j h0
   have cbit := fun w => xEl a (j : Int) ha w
   rw [xDj a j (by omega), ebit] at cbit
   have hx := nl_bit_add (rN a b (j + 1)) bit hbit
   obtain ⟨X, c, hX, hcc, hXB, hc⟩ := xKa (rN a b (j + 1)) bit b hRb hb hbit
   rw [hX] at hx
   have cad := ra_lit (s := rN a b (j + 1) + rN a b (j + 1)) (by omega : rN a b (j + 1) < B) (by omega) rfl hcc
   have hset := nl_addbit (qN a b (j + 1)) j (by omega) hQ
   rw [er, eS] at hc
   have cc := rc_lit hXB hb rfl
   have e1 : ((j + 1 : Nat) : Int) - 1 = (j : Int) := by omega
   rw [e1]
   clear ebit er eS hQ hX hcc hbit e1
   generalize rN a b (j + 1) = R at *
   generalize qN a b (j + 1) = Q at *
   generalize R + R = s at *
   have hset0 : (nl s).set 0 (.int .u64 (IntKind.u64.wrap (wd s 0 + (bit : Int)))) = nl X := by rw [← hx]; rfl
   clear hx hRb
   have hv := nl_at Q (j / 64) (by omega)
   have l0 := xDz Q (j / 64)
   have l1 := xEk Q (j / 64)
   obtain ⟨x, hx⟩ : ∃ x, j / 64 = x := ⟨_, rfl⟩
   obtain ⟨y, hy⟩ : ∃ y, j % 64 = y := ⟨_, rfl⟩
   rw [hx, hy] at hset
   rw [hx] at hv l0 l1
   have e1 : (j : Int) / 64 = (x : Int) := by omega
   have e2 : IntKind.i64.wrap (x : Int) = (x : Int) := by rw [IntKind.wrap_i64]; omega
   have e3 : (j : Int).tmod 64 = (y : Int) := by rw [Int.tmod_eq_emod_of_nonneg (by omega)]; omega
   have e4 : (j : Int) % 64 = (y : Int) := by omega
   have e5 : IntKind.i64.wrap (y : Int) = (y : Int) := by rw [IntKind.wrap_i64]; omega
   have e6 : (x : Int) < 4 := by omega
   have e7 : (y : Int) < 64 := by omega
   have e8 : 0 ≤ (x : Int) := by omega
   have e9 : 0 ≤ (y : Int) := by omega
   have e10 : x < 4 := by omega
   have kj0 : 0 ≤ (j : Int) := by omega
   have kj1 : (j : Int) < 256 := by omega
   have s0 := xDz s 0
   have s1 := xEk s 0
   clear hx hy hj a256
   rcases hc with ⟨rfl, d2, rfl⟩ | ⟨rfl, cg, d2, rfl⟩ | ⟨rfl, cg, d2, rfl⟩
   rotate_left 2
   ·rw [Nat.zero_mul, Nat.add_zero] at eq
    have d3 : nl X = nl (rN a b j) := by simpa [num] using d2
    rw [← d3, ← eq] at hK
    generalize cmpN X b = t at *
    clear d2 d3 eq hS hset
    go_wp2_with (first | (refine' aBq hR ?_; clear hR; intro blk w hR) | (refine' aEq hR ?_) | (refine' aFq hR ?_; clear hR; intro w hR) | (go_at_call 196; refine (cad _).mono ?_; rintro e w ⟨rfl, hb⟩; replace hR := hR.call hb; clear hb))
    refine xAd hR [0, 0, 0, 0, 0, 0, 0, 2] [] xBd (by kernel_rfl) rfl rfl (fun K hK => ?_)
    clear hR
    repeat ((first | (refine xAp ?_) | (refine' xAj (by decide) rfl (.inl rfl) rfl ?ha ?_) | (refine' aIq ?ha ?_) | (refine' aCq ?ha ?_) | ((first | refine' xAg (by decide) rfl rfl rfl rfl (fun w => ?hq) ?ha ?_ | refine' xAm (by decide) rfl rfl rfl rfl (fun w => ?hq) ?ha ?_); (case hq => go_simp; try rfl)) | (refine' xAk rfl rfl rfl (xAi Tryz.func197 (by kernel_rfl) (by kernel_rfl) _) (fun w => cbit w) ?ha ?_)); try (case ha => simp only [kP, kQ, kA, kB]; try rfl))
    refine xAo (hK _ _ ?_)
    clear hK K
    refine xAr (fun Q hQ => ?_)
    try simp only [List.nil_append, List.cons_append]
    repeat ((refine' aDq ?hk ?ha ?_); (case hk => intro p hp; first | exact absurd hp List.not_mem_nil | (obtain rfl := List.mem_singleton.1 hp; repeat (first | exact List.Mem.head _ | apply mT))); (case ha => simp only [kP, kQ, kA, kB]; try rfl))
    refine xAs (fun w hR => hQ _ _ ?_)
    clear hQ Q
    go_wp2_with (first | (refine' aEq hR ?_) | (refine' aFq hR ?_; clear hR; intro w hR) | (refine' aCr hR ?_) | (go_at_call 185; refine (cc _).mono ?_; rintro e w ⟨rfl, hb⟩; replace hR := hR.call hb; clear hb))
    exact hK.out _ _ (xAf rfl rfl rfl) hR.tail
   all_goals
    have cs := rs_lit hXB hb d2
    rw [eq, Int.one_mul] at hset
    generalize cmpN X b = t at *
    generalize bor (X : Int) (b : Int) = l at *
    clear d2 eq hS
    go_wp2_with (first | (refine' aBq hR ?_; clear hR; intro blk w hR) | (refine' aEq hR ?_) | (refine' aFq hR ?_; clear hR; intro w hR) | (go_at_call 196; refine (cad _).mono ?_; rintro e w ⟨rfl, hb⟩; replace hR := hR.call hb; clear hb))
    refine xAd hR [0, 0, 0, 0, 0, 0, 0, 2] [] xBd (by kernel_rfl) rfl rfl (fun K hK => ?_)
    clear hR
    repeat ((first | (refine xAp ?_) | (refine' xAj (by decide) rfl (.inl rfl) rfl ?ha ?_) | (refine' aIq ?ha ?_) | (refine' aCq ?ha ?_) | ((first | refine' xAg (by decide) rfl rfl rfl rfl (fun w => ?hq) ?ha ?_ | refine' xAm (by decide) rfl rfl rfl rfl (fun w => ?hq) ?ha ?_); (case hq => go_simp; try rfl)) | (refine' xAk rfl rfl rfl (xAi Tryz.func197 (by kernel_rfl) (by kernel_rfl) _) (fun w => cbit w) ?ha ?_)); try (case ha => simp only [kP, kQ, kA, kB]; try rfl))
    refine xAo (hK _ _ ?_)
    clear hK K
    refine xAr (fun Q hQ => ?_)
    try simp only [List.nil_append, List.cons_append]
    repeat ((refine' aDq ?hk ?ha ?_); (case hk => intro p hp; first | exact absurd hp List.not_mem_nil | (obtain rfl := List.mem_singleton.1 hp; repeat (first | exact List.Mem.head _ | apply mT))); (case ha => simp only [kP, kQ, kA, kB]; try rfl))
    refine xAs (fun w hR => hQ _ _ ?_)
    clear hQ Q
    go_wp2_with (first | (refine' aEq hR ?_) | (refine' aFq hR ?_; clear hR; intro w hR) | (refine' aCr hR ?_) | (go_at_call 132; refine (cs _).mono ?_; rintro e w ⟨rfl, hb⟩; replace hR := hR.call hb; clear hb) | (go_at_call 185; refine (cc _).mono ?_; rintro e w ⟨rfl, hb⟩; replace hR := hR.call hb; clear hb))
    refine xAd hR [0, 0, 0, 0, 0, 0, 0, 0, 0, 0, 0, 2] [] xBd (by kernel_rfl) rfl rfl (fun K hK => ?_)
    clear hR
    repeat ((first | (refine xAp ?_) | (refine' xAj (by decide) rfl (.inl rfl) rfl ?ha ?_) | (refine' aCq ?ha ?_) | ((first | refine' xAg (by decide) rfl rfl rfl rfl (fun w => ?hq) ?ha ?_ | refine' xAm (by decide) rfl rfl rfl rfl (fun w => ?hq) ?ha ?_); (case hq => go_simp; try rfl))); try (case ha => simp only [kP, kQ, kA, kB]; try rfl))
    refine xAo (hK _ _ ?_)
    clear hK K
    refine xAr (fun Q hQ => ?_)
    try simp only [List.nil_append, List.cons_append]
    repeat ((refine' aDq ?hk ?ha ?_); (case hk => intro p hp; first | exact absurd hp List.not_mem_nil | (obtain rfl := List.mem_singleton.1 hp; repeat (first | exact List.Mem.head _ | apply mT))); (case ha => simp only [kP, kQ, kA, kB]; try rfl))
    refine xAs (fun w hR => hQ _ _ ?_)
    clear hQ Q
    go_wp2_with (fail)
    exact hK.out _ _ (xAf rfl rfl rfl) hR.tail
  case he =>
   clear hR
   intro tm w ht hR K
   simp only [Int.natCast_zero, Int.zero_sub] at ht
   repeat (first | (obtain ⟨x, tm', e, ht'⟩ := xAc ht; clear ht; subst e; have ht := ht'; clear ht') | (obtain ⟨tm', e, ht'⟩ := xAa ht; clear ht; subst e; have ht := ht'; clear ht'))
   obtain rfl := xAe ht
   clear ht
   rw [rN_zero h0, qN_zero] at hR
   go_wp2_with (fail)
   refine xAd hR [0, 1, 2, 2, 2] [0] xBd (by kernel_rfl) rfl rfl (fun K hK => ?_)
   clear hR
   repeat ((first | (refine xAp ?_) | (refine' aIq ?ha ?_) | (refine' aJq ?ha ?_)); try (case ha => simp only [kP, kQ, kA, kB]; try rfl))
   refine xAo (hK _ _ ?_)
   clear hK K
   refine xAr (fun Q hQ => ?_)
   try simp only [List.nil_append, List.cons_append]
   repeat ((first | refine' xBf rfl (.inr rfl) rfl ?hk ?ha ?_ | (refine' aKq ?hk ?ha ?_)); (case hk => intro p hp; first | exact absurd hp List.not_mem_nil | (obtain rfl := List.mem_singleton.1 hp; repeat (first | exact List.Mem.head _ | apply mT))); (case ha => simp only [kP, kQ, kA, kB]; try rfl))
   refine xAs (fun w hR => hQ _ _ ?_)
   clear hQ Q
   go_wp2_with (fail)
   (refine' bodyPost_ret (xDw Tryz.results130 rfl (hR.loadAll (P := Tryz.prog) (ty := 24) ?hm ?hn) rfl (hR.loadAll (P := Tryz.prog) (ty := 24) ?hm2 ?hn2)) rfl ⟨?_, hR.below⟩; (case hm => first | with_reducible assumption | repeat (first | exact .head _ | apply mT)); (case hn => first | rfl | simp); (case hm2 => first | with_reducible assumption | repeat (first | exact .head _ | apply mT)); (case hn2 => first | rfl | simp))
   rfl
theorem refDiv_any (a b : Nat) (ha : a < B) (hb : b < B) (w : World) : Calls Tryz.prog 130 #[num a, num b] w fun e w' =>
  e = .returned (.tuple #[num (quo0 a b), num (rem0 a b), .int .i64 (if b = 0 then 1 else 0)]) ∧ Below w.heap.size w w' := by
 by_cases h : b = 0
 ·subst h
  rw [if_pos rfl, rem0_def, xEw, if_pos rfl, Nat.div_zero]
  exact refDiv_none a ha w
 ·rw [if_neg h]
  by_cases hs : a < 18446744073709551616 ∧ b < 18446744073709551616
  ·exact refDiv_short a b h hs.1 hs.2 w
  ·exact refDiv_long a b ha hb h hs w
theorem xHf (a b : Nat) (ha : a < B) (hb : b < B) (w : World) : Calls Tryz.prog 212 #[num a, num b] w fun e w' =>
  e = .returned (num (gcdN a b)) ∧ Below w.heap.size w w' := by
 obtain ⟨n, X, Y, hX, hY, hY0, hg, hlt, hst⟩ := euclid b a ha hb
 rw [← hg, ← hX, ← hY]
 clear hg hX hY
 have hR := Rep.init w
 go_enter Tryz.func212, Tryz.ntmps212
 go_wp2_with (first | (refine' aAq hR ?_; clear hR; intro blk w hR) | (refine' aBq hR ?_; clear hR; intro blk w hR))
 (first | (rename_i b2; change Nat at b2) | (rename_i b2 _; change Nat at b2) | (rename_i b2 _ _; change Nat at b2) | (rename_i b2 _ _ _; change Nat at b2) | (rename_i b2 _ _ _ _; change Nat at b2) | (rename_i b2 _ _ _ _ _; change Nat at b2) | (rename_i b2 _ _ _ _ _ _; change Nat at b2) | (rename_i b2 _ _ _ _ _ _ _; change Nat at b2) | (rename_i b2 _ _ _ _ _ _ _ _; change Nat at b2) | (rename_i b2 _ _ _ _ _ _ _ _ _; change Nat at b2) | (rename_i b2 _ _ _ _ _ _ _ _ _ _; change Nat at b2) | (rename_i b2 _ _ _ _ _ _ _ _ _ _ _; change Nat at b2) | (rename_i b2 _ _ _ _ _ _ _ _ _ _ _ _; change Nat at b2) | (rename_i b2 _ _ _ _ _ _ _ _ _ _ _ _ _; change Nat at b2) | (rename_i b2 _ _ _ _ _ _ _ _ _ _ _ _ _ _; change Nat at b2) | (rename_i b2 _ _ _ _ _ _ _ _ _ _ _ _ _ _ _; change Nat at b2) | (rename_i b2 _ _ _ _ _ _ _ _ _ _ _ _ _ _ _ _; change Nat at b2) | (rename_i b2 _ _ _ _ _ _ _ _ _ _ _ _ _ _ _ _ _; change Nat at b2) | (rename_i b2 _ _ _ _ _ _ _ _ _ _ _ _ _ _ _ _ _ _; change Nat at b2) | (rename_i b2 _ _ _ _ _ _ _ _ _ _ _ _ _ _ _ _ _ _ _; change Nat at b2))
 (first | (rename_i b1; change Nat at b1) | (rename_i b1 _; change Nat at b1) | (rename_i b1 _ _; change Nat at b1) | (rename_i b1 _ _ _; change Nat at b1) | (rename_i b1 _ _ _ _; change Nat at b1) | (rename_i b1 _ _ _ _ _; change Nat at b1) | (rename_i b1 _ _ _ _ _ _; change Nat at b1) | (rename_i b1 _ _ _ _ _ _ _; change Nat at b1) | (rename_i b1 _ _ _ _ _ _ _ _; change Nat at b1) | (rename_i b1 _ _ _ _ _ _ _ _ _; change Nat at b1) | (rename_i b1 _ _ _ _ _ _ _ _ _ _; change Nat at b1) | (rename_i b1 _ _ _ _ _ _ _ _ _ _ _; change Nat at b1) | (rename_i b1 _ _ _ _ _ _ _ _ _ _ _ _; change Nat at b1) | (rename_i b1 _ _ _ _ _ _ _ _ _ _ _ _ _; change Nat at b1) | (rename_i b1 _ _ _ _ _ _ _ _ _ _ _ _ _ _; change Nat at b1) | (rename_i b1 _ _ _ _ _ _ _ _ _ _ _ _ _ _ _; change Nat at b1) | (rename_i b1 _ _ _ _ _ _ _ _ _ _ _ _ _ _ _ _; change Nat at b1) | (rename_i b1 _ _ _ _ _ _ _ _ _ _ _ _ _ _ _ _ _; change Nat at b1) | (rename_i b1 _ _ _ _ _ _ _ _ _ _ _ _ _ _ _ _ _ _; change Nat at b1) | (rename_i b1 _ _ _ _ _ _ _ _ _ _ _ _ _ _ _ _ _ _ _; change Nat at b1))
 refine' xBm (false :: false :: false :: false :: false :: true :: true :: true :: true :: true :: true :: true :: true :: true :: true :: true :: true :: true :: true :: true :: false :: []) (fun j l => l) (fun j => [(blk, .cells [.int .u64 0, .int .u64 0, .int .u64 0, .int .u64 0].toArray 24), (b2, .cells (nl (Y j)).toArray 24), (b1, .cells (nl (X j)).toArray 24)]) n ?h0 ?hR ?hs ?he
 case hR =>
  exact hR
 case h0 =>
  exact xAf rfl rfl rfl
 case hs =>
  clear hR
  intro j tm w hj ht hR K hK
  repeat (first | (obtain ⟨x, tm', e, ht'⟩ := xAc ht; clear ht; subst e; have ht := ht'; clear ht') | (obtain ⟨tm', e, ht'⟩ := xAa ht; clear ht; subst e; have ht := ht'; clear ht'))
  obtain rfl := xAe ht
  clear ht
  obtain ⟨y0, e1, e2⟩ := hst j hj
  obtain ⟨l1, l2⟩ := hlt (j + 1) (by omega)
  have z := xDq l2 xEy y0
  have cd := fun w => refDiv_any _ _ l1 l2 w
  rw [← e2] at cd
  rw [e1] at hK
  clear hst hlt e2 e1
  generalize X (j + 1) = U at *
  generalize Y (j + 1) = V at *
  go_wp2_with (first | (refine' aBq hR ?_; clear hR; intro blk w hR) | (refine' aEq hR ?_) | (refine' aFq hR ?_; clear hR; intro w hR) | (go_at_call 130; refine (cd _).mono ?_; rintro e w ⟨rfl, hb⟩; replace hR := hR.call hb; clear hb))
  exact hK.out _ _ (xAf rfl rfl rfl) hR.tail.tail
 case he =>
  clear hR hst hlt
  intro tm w ht hR K
  repeat (first | (obtain ⟨x, tm', e, ht'⟩ := xAc ht; clear ht; subst e; have ht := ht'; clear ht') | (obtain ⟨tm', e, ht'⟩ := xAa ht; clear ht; subst e; have ht := ht'; clear ht'))
  obtain rfl := xAe ht
  clear ht
  rw [hY0] at hR
  have z := xDm 0
  go_wp2_with (first | (refine' aEq hR ?_) | (refine' aFq hR ?_; clear hR; intro w hR))
  try rw [Exit.noGoto_ret]
  (refine' bodyPost_ret (xAq Tryz.results212 rfl (hR.loadAll (P := Tryz.prog) (ty := 24) ?hm ?hn)) rfl ⟨?_, hR.below⟩; (case hm => first | with_reducible assumption | repeat (first | exact .head _ | apply mT)); (case hn => first | rfl | simp))
  rfl
end
section
attribute [local irreducible] Calls
theorem rd_lit {a b q r : Nat} {e : Int} (ha : a < B) (hb : b < B) (hq : quo0 a b = q) (hr : rem0 a b = r) (he : (if b = 0 then (1 : Int) else 0) = e) (w : World) : Calls Tryz.prog 130 #[num a, num b] w fun e' w' =>
  e' = .returned (.tuple #[num q, num r, .int .i64 e]) ∧ Below w.heap.size w w' := by
 have := refDiv_any a b ha hb w
 rwa [hq, hr, he] at this
theorem refInv_yes (a m : Nat) (h1 : 1 < m) (ha : a < m) (hm : m < B) (hg : Nat.gcd a m = 1) (w : World) : Calls Tryz.prog 179 #[num a, num m] w fun e w' =>
  e = .returned (.tuple #[num (invM a m), .int .i64 0]) ∧ Below w.heap.size w w' := by
 have cm := fun w => xDh a a m (by omega) (by omega) hm w
 rw [decide_eq_true (show okM a a m from ⟨h1, ha, ha⟩)] at cm
 obtain ⟨n1, hn1⟩ : ∃ n, n = 1 := ⟨_, rfl⟩
 have L1 : n1 < B := lt_B (by omega)
 have o1 : ∀ w, Calls Tryz.prog 131 #[.int .u64 1] w fun e w' => e = .returned (num n1) ∧ Below w.heap.size w w' := fun w => by
  rw [hn1]; exact xCw 1 (by decide) w
 have cg := fun w => xHf a m (by omega) hm w
 rw [xGv, hg, ← hn1] at cg
 rw [invM_yes hg]
 have a0 : 1 ≤ a := by
  rcases Nat.eq_zero_or_pos a with h | h
  ·rw [h, Nat.gcd_zero_left] at hg; omega
  ·exact h
 obtain ⟨N, R, S, X, Y, k1, k2, k3, k4, k5, k6, k7, k8⟩ := xIu a m h1 a m 0 1 (by rw [Nat.gcd_comm, hg]) a0 ha (Nat.le_refl _) (by omega) h1 (by rw [Nat.zero_mul, Nat.zero_mod, Nat.mod_self]) (by rw [Nat.one_mul])
 have e9 := invN_is (k7 0 (Nat.zero_le _)).2.2.2 k6
 rw [e9]
 have hR := Rep.init w
 rw [← hn1] at k4 k5
 have es := xDm n1
 replace hn1 := Held.mk hn1
 replace k1 := Held.mk k1
 replace k2 := Held.mk k2
 replace k3 := Held.mk k3
 replace k4 := Held.mk k4
 replace k5 := Held.mk k5
 replace k7 := Held.mk k7
 replace k8 := Held.mk k8
 clear k6 e9 hg a0
 go_enter Tryz.func179, Tryz.ntmps179
 go_wp2_with (first | (refine' aAq hR ?_; clear hR; intro blk w hR) | (refine' aBq hR ?_; clear hR; intro blk w hR) | (refine' aEq hR ?_) | (refine' aFq hR ?_; clear hR; intro w hR) | (go_at_call 211; refine (cm _).mono ?_; rintro e w ⟨rfl, hb⟩; replace hR := hR.call hb; clear hb) | (go_at_call 212; refine (cg _).mono ?_; rintro e w ⟨rfl, hb⟩; replace hR := hR.call hb; clear hb) | (go_at_call 131; refine (o1 _).mono ?_; rintro e w ⟨rfl, hb⟩; replace hR := hR.call hb; clear hb))
 clear cm cg
 (first | (rename_i b8; change Nat at b8) | (rename_i b8 _; change Nat at b8) | (rename_i b8 _ _; change Nat at b8) | (rename_i b8 _ _ _; change Nat at b8) | (rename_i b8 _ _ _ _; change Nat at b8) | (rename_i b8 _ _ _ _ _; change Nat at b8) | (rename_i b8 _ _ _ _ _ _; change Nat at b8) | (rename_i b8 _ _ _ _ _ _ _; change Nat at b8) | (rename_i b8 _ _ _ _ _ _ _ _; change Nat at b8) | (rename_i b8 _ _ _ _ _ _ _ _ _; change Nat at b8) | (rename_i b8 _ _ _ _ _ _ _ _ _ _; change Nat at b8) | (rename_i b8 _ _ _ _ _ _ _ _ _ _ _; change Nat at b8) | (rename_i b8 _ _ _ _ _ _ _ _ _ _ _ _; change Nat at b8) | (rename_i b8 _ _ _ _ _ _ _ _ _ _ _ _ _; change Nat at b8) | (rename_i b8 _ _ _ _ _ _ _ _ _ _ _ _ _ _; change Nat at b8) | (rename_i b8 _ _ _ _ _ _ _ _ _ _ _ _ _ _ _; change Nat at b8) | (rename_i b8 _ _ _ _ _ _ _ _ _ _ _ _ _ _ _ _; change Nat at b8) | (rename_i b8 _ _ _ _ _ _ _ _ _ _ _ _ _ _ _ _ _; change Nat at b8) | (rename_i b8 _ _ _ _ _ _ _ _ _ _ _ _ _ _ _ _ _ _; change Nat at b8) | (rename_i b8 _ _ _ _ _ _ _ _ _ _ _ _ _ _ _ _ _ _ _; change Nat at b8) | (rename_i b8 _ _ _ _ _ _ _ _ _ _ _ _ _ _ _ _ _ _ _ _; change Nat at b8) | (rename_i b8 _ _ _ _ _ _ _ _ _ _ _ _ _ _ _ _ _ _ _ _ _; change Nat at b8) | (rename_i b8 _ _ _ _ _ _ _ _ _ _ _ _ _ _ _ _ _ _ _ _ _ _; change Nat at b8) | (rename_i b8 _ _ _ _ _ _ _ _ _ _ _ _ _ _ _ _ _ _ _ _ _ _ _; change Nat at b8) | (rename_i b8 _ _ _ _ _ _ _ _ _ _ _ _ _ _ _ _ _ _ _ _ _ _ _ _; change Nat at b8) | (rename_i b8 _ _ _ _ _ _ _ _ _ _ _ _ _ _ _ _ _ _ _ _ _ _ _ _ _; change Nat at b8))
 (first | (rename_i b7; change Nat at b7) | (rename_i b7 _; change Nat at b7) | (rename_i b7 _ _; change Nat at b7) | (rename_i b7 _ _ _; change Nat at b7) | (rename_i b7 _ _ _ _; change Nat at b7) | (rename_i b7 _ _ _ _ _; change Nat at b7) | (rename_i b7 _ _ _ _ _ _; change Nat at b7) | (rename_i b7 _ _ _ _ _ _ _; change Nat at b7) | (rename_i b7 _ _ _ _ _ _ _ _; change Nat at b7) | (rename_i b7 _ _ _ _ _ _ _ _ _; change Nat at b7) | (rename_i b7 _ _ _ _ _ _ _ _ _ _; change Nat at b7) | (rename_i b7 _ _ _ _ _ _ _ _ _ _ _; change Nat at b7) | (rename_i b7 _ _ _ _ _ _ _ _ _ _ _ _; change Nat at b7) | (rename_i b7 _ _ _ _ _ _ _ _ _ _ _ _ _; change Nat at b7) | (rename_i b7 _ _ _ _ _ _ _ _ _ _ _ _ _ _; change Nat at b7) | (rename_i b7 _ _ _ _ _ _ _ _ _ _ _ _ _ _ _; change Nat at b7) | (rename_i b7 _ _ _ _ _ _ _ _ _ _ _ _ _ _ _ _; change Nat at b7) | (rename_i b7 _ _ _ _ _ _ _ _ _ _ _ _ _ _ _ _ _; change Nat at b7) | (rename_i b7 _ _ _ _ _ _ _ _ _ _ _ _ _ _ _ _ _ _; change Nat at b7) | (rename_i b7 _ _ _ _ _ _ _ _ _ _ _ _ _ _ _ _ _ _ _; change Nat at b7) | (rename_i b7 _ _ _ _ _ _ _ _ _ _ _ _ _ _ _ _ _ _ _ _; change Nat at b7) | (rename_i b7 _ _ _ _ _ _ _ _ _ _ _ _ _ _ _ _ _ _ _ _ _; change Nat at b7) | (rename_i b7 _ _ _ _ _ _ _ _ _ _ _ _ _ _ _ _ _ _ _ _ _ _; change Nat at b7) | (rename_i b7 _ _ _ _ _ _ _ _ _ _ _ _ _ _ _ _ _ _ _ _ _ _ _; change Nat at b7) | (rename_i b7 _ _ _ _ _ _ _ _ _ _ _ _ _ _ _ _ _ _ _ _ _ _ _ _; change Nat at b7) | (rename_i b7 _ _ _ _ _ _ _ _ _ _ _ _ _ _ _ _ _ _ _ _ _ _ _ _ _; change Nat at b7))
 (first | (rename_i b6; change Nat at b6) | (rename_i b6 _; change Nat at b6) | (rename_i b6 _ _; change Nat at b6) | (rename_i b6 _ _ _; change Nat at b6) | (rename_i b6 _ _ _ _; change Nat at b6) | (rename_i b6 _ _ _ _ _; change Nat at b6) | (rename_i b6 _ _ _ _ _ _; change Nat at b6) | (rename_i b6 _ _ _ _ _ _ _; change Nat at b6) | (rename_i b6 _ _ _ _ _ _ _ _; change Nat at b6) | (rename_i b6 _ _ _ _ _ _ _ _ _; change Nat at b6) | (rename_i b6 _ _ _ _ _ _ _ _ _ _; change Nat at b6) | (rename_i b6 _ _ _ _ _ _ _ _ _ _ _; change Nat at b6) | (rename_i b6 _ _ _ _ _ _ _ _ _ _ _ _; change Nat at b6) | (rename_i b6 _ _ _ _ _ _ _ _ _ _ _ _ _; change Nat at b6) | (rename_i b6 _ _ _ _ _ _ _ _ _ _ _ _ _ _; change Nat at b6) | (rename_i b6 _ _ _ _ _ _ _ _ _ _ _ _ _ _ _; change Nat at b6) | (rename_i b6 _ _ _ _ _ _ _ _ _ _ _ _ _ _ _ _; change Nat at b6) | (rename_i b6 _ _ _ _ _ _ _ _ _ _ _ _ _ _ _ _ _; change Nat at b6) | (rename_i b6 _ _ _ _ _ _ _ _ _ _ _ _ _ _ _ _ _ _; change Nat at b6) | (rename_i b6 _ _ _ _ _ _ _ _ _ _ _ _ _ _ _ _ _ _ _; change Nat at b6) | (rename_i b6 _ _ _ _ _ _ _ _ _ _ _ _ _ _ _ _ _ _ _ _; change Nat at b6) | (rename_i b6 _ _ _ _ _ _ _ _ _ _ _ _ _ _ _ _ _ _ _ _ _; change Nat at b6) | (rename_i b6 _ _ _ _ _ _ _ _ _ _ _ _ _ _ _ _ _ _ _ _ _ _; change Nat at b6) | (rename_i b6 _ _ _ _ _ _ _ _ _ _ _ _ _ _ _ _ _ _ _ _ _ _ _; change Nat at b6) | (rename_i b6 _ _ _ _ _ _ _ _ _ _ _ _ _ _ _ _ _ _ _ _ _ _ _ _; change Nat at b6) | (rename_i b6 _ _ _ _ _ _ _ _ _ _ _ _ _ _ _ _ _ _ _ _ _ _ _ _ _; change Nat at b6))
 (first | (rename_i b5; change Nat at b5) | (rename_i b5 _; change Nat at b5) | (rename_i b5 _ _; change Nat at b5) | (rename_i b5 _ _ _; change Nat at b5) | (rename_i b5 _ _ _ _; change Nat at b5) | (rename_i b5 _ _ _ _ _; change Nat at b5) | (rename_i b5 _ _ _ _ _ _; change Nat at b5) | (rename_i b5 _ _ _ _ _ _ _; change Nat at b5) | (rename_i b5 _ _ _ _ _ _ _ _; change Nat at b5) | (rename_i b5 _ _ _ _ _ _ _ _ _; change Nat at b5) | (rename_i b5 _ _ _ _ _ _ _ _ _ _; change Nat at b5) | (rename_i b5 _ _ _ _ _ _ _ _ _ _ _; change Nat at b5) | (rename_i b5 _ _ _ _ _ _ _ _ _ _ _ _; change Nat at b5) | (rename_i b5 _ _ _ _ _ _ _ _ _ _ _ _ _; change Nat at b5) | (rename_i b5 _ _ _ _ _ _ _ _ _ _ _ _ _ _; change Nat at b5) | (rename_i b5 _ _ _ _ _ _ _ _ _ _ _ _ _ _ _; change Nat at b5) | (rename_i b5 _ _ _ _ _ _ _ _ _ _ _ _ _ _ _ _; change Nat at b5) | (rename_i b5 _ _ _ _ _ _ _ _ _ _ _ _ _ _ _ _ _; change Nat at b5) | (rename_i b5 _ _ _ _ _ _ _ _ _ _ _ _ _ _ _ _ _ _; change Nat at b5) | (rename_i b5 _ _ _ _ _ _ _ _ _ _ _ _ _ _ _ _ _ _ _; change Nat at b5) | (rename_i b5 _ _ _ _ _ _ _ _ _ _ _ _ _ _ _ _ _ _ _ _; change Nat at b5) | (rename_i b5 _ _ _ _ _ _ _ _ _ _ _ _ _ _ _ _ _ _ _ _ _; change Nat at b5) | (rename_i b5 _ _ _ _ _ _ _ _ _ _ _ _ _ _ _ _ _ _ _ _ _ _; change Nat at b5) | (rename_i b5 _ _ _ _ _ _ _ _ _ _ _ _ _ _ _ _ _ _ _ _ _ _ _; change Nat at b5) | (rename_i b5 _ _ _ _ _ _ _ _ _ _ _ _ _ _ _ _ _ _ _ _ _ _ _ _; change Nat at b5) | (rename_i b5 _ _ _ _ _ _ _ _ _ _ _ _ _ _ _ _ _ _ _ _ _ _ _ _ _; change Nat at b5))
 (first | (rename_i b4; change Nat at b4) | (rename_i b4 _; change Nat at b4) | (rename_i b4 _ _; change Nat at b4) | (rename_i b4 _ _ _; change Nat at b4) | (rename_i b4 _ _ _ _; change Nat at b4) | (rename_i b4 _ _ _ _ _; change Nat at b4) | (rename_i b4 _ _ _ _ _ _; change Nat at b4) | (rename_i b4 _ _ _ _ _ _ _; change Nat at b4) | (rename_i b4 _ _ _ _ _ _ _ _; change Nat at b4) | (rename_i b4 _ _ _ _ _ _ _ _ _; change Nat at b4) | (rename_i b4 _ _ _ _ _ _ _ _ _ _; change Nat at b4) | (rename_i b4 _ _ _ _ _ _ _ _ _ _ _; change Nat at b4) | (rename_i b4 _ _ _ _ _ _ _ _ _ _ _ _; change Nat at b4) | (rename_i b4 _ _ _ _ _ _ _ _ _ _ _ _ _; change Nat at b4) | (rename_i b4 _ _ _ _ _ _ _ _ _ _ _ _ _ _; change Nat at b4) | (rename_i b4 _ _ _ _ _ _ _ _ _ _ _ _ _ _ _; change Nat at b4) | (rename_i b4 _ _ _ _ _ _ _ _ _ _ _ _ _ _ _ _; change Nat at b4) | (rename_i b4 _ _ _ _ _ _ _ _ _ _ _ _ _ _ _ _ _; change Nat at b4) | (rename_i b4 _ _ _ _ _ _ _ _ _ _ _ _ _ _ _ _ _ _; change Nat at b4) | (rename_i b4 _ _ _ _ _ _ _ _ _ _ _ _ _ _ _ _ _ _ _; change Nat at b4) | (rename_i b4 _ _ _ _ _ _ _ _ _ _ _ _ _ _ _ _ _ _ _ _; change Nat at b4) | (rename_i b4 _ _ _ _ _ _ _ _ _ _ _ _ _ _ _ _ _ _ _ _ _; change Nat at b4) | (rename_i b4 _ _ _ _ _ _ _ _ _ _ _ _ _ _ _ _ _ _ _ _ _ _; change Nat at b4) | (rename_i b4 _ _ _ _ _ _ _ _ _ _ _ _ _ _ _ _ _ _ _ _ _ _ _; change Nat at b4) | (rename_i b4 _ _ _ _ _ _ _ _ _ _ _ _ _ _ _ _ _ _ _ _ _ _ _ _; change Nat at b4) | (rename_i b4 _ _ _ _ _ _ _ _ _ _ _ _ _ _ _ _ _ _ _ _ _ _ _ _ _; change Nat at b4))
 (first | (rename_i b3; change Nat at b3) | (rename_i b3 _; change Nat at b3) | (rename_i b3 _ _; change Nat at b3) | (rename_i b3 _ _ _; change Nat at b3) | (rename_i b3 _ _ _ _; change Nat at b3) | (rename_i b3 _ _ _ _ _; change Nat at b3) | (rename_i b3 _ _ _ _ _ _; change Nat at b3) | (rename_i b3 _ _ _ _ _ _ _; change Nat at b3) | (rename_i b3 _ _ _ _ _ _ _ _; change Nat at b3) | (rename_i b3 _ _ _ _ _ _ _ _ _; change Nat at b3) | (rename_i b3 _ _ _ _ _ _ _ _ _ _; change Nat at b3) | (rename_i b3 _ _ _ _ _ _ _ _ _ _ _; change Nat at b3) | (rename_i b3 _ _ _ _ _ _ _ _ _ _ _ _; change Nat at b3) | (rename_i b3 _ _ _ _ _ _ _ _ _ _ _ _ _; change Nat at b3) | (rename_i b3 _ _ _ _ _ _ _ _ _ _ _ _ _ _; change Nat at b3) | (rename_i b3 _ _ _ _ _ _ _ _ _ _ _ _ _ _ _; change Nat at b3) | (rename_i b3 _ _ _ _ _ _ _ _ _ _ _ _ _ _ _ _; change Nat at b3) | (rename_i b3 _ _ _ _ _ _ _ _ _ _ _ _ _ _ _ _ _; change Nat at b3) | (rename_i b3 _ _ _ _ _ _ _ _ _ _ _ _ _ _ _ _ _ _; change Nat at b3) | (rename_i b3 _ _ _ _ _ _ _ _ _ _ _ _ _ _ _ _ _ _ _; change Nat at b3) | (rename_i b3 _ _ _ _ _ _ _ _ _ _ _ _ _ _ _ _ _ _ _ _; change Nat at b3) | (rename_i b3 _ _ _ _ _ _ _ _ _ _ _ _ _ _ _ _ _ _ _ _ _; change Nat at b3) | (rename_i b3 _ _ _ _ _ _ _ _ _ _ _ _ _ _ _ _ _ _ _ _ _ _; change Nat at b3) | (rename_i b3 _ _ _ _ _ _ _ _ _ _ _ _ _ _ _ _ _ _ _ _ _ _ _; change Nat at b3) | (rename_i b3 _ _ _ _ _ _ _ _ _ _ _ _ _ _ _ _ _ _ _ _ _ _ _ _; change Nat at b3) | (rename_i b3 _ _ _ _ _ _ _ _ _ _ _ _ _ _ _ _ _ _ _ _ _ _ _ _ _; change Nat at b3))
 refine' xBm (false :: false :: false :: false :: false :: false :: false :: false :: false :: false :: true :: true :: true :: true :: true :: false :: false :: false :: false :: false :: false :: false :: false :: false :: false :: false :: false :: false :: false :: false :: true :: true :: true :: true :: true :: true :: true :: true :: true :: true :: true :: true :: true :: true :: true :: true :: true :: true :: true :: true :: true :: true :: true :: true :: true :: true :: true :: true :: true :: true :: true :: false :: []) (fun j l => l) (fun j => [(blk, .cells (nl (Y j)).toArray 24), (b8, .cells (nl (X j)).toArray 24), (b7, .cells (nl (S j)).toArray 24), (b6, .cells (nl (R j)).toArray 24), (b5, .cells (nl 0).toArray 24), (b4, .cells (nl m).toArray 24), (b3, .cells (nl a).toArray 24)]) N ?h0 ?hR ?hs ?he
 case hR =>
  show Rep _ _ [(_, .cells (nl (Y N)).toArray _), (_, .cells (nl (X N)).toArray _), (_, .cells (nl (S N)).toArray _), (_, .cells (nl (R N)).toArray _), _, _, _] _
  rw [k1.out, k2.out, k3.out, k4.out, ← xDf]
  exact hR
 case h0 =>
  exact xAf rfl rfl rfl
 case hs =>
  clear hR
  intro j tm w hj ht hR K hK
  repeat (first | (obtain ⟨x, tm', e, ht'⟩ := xAc ht; clear ht; subst e; have ht := ht'; clear ht') | (obtain ⟨tm', e, ht'⟩ := xAa ht; clear ht; subst e; have ht := ht'; clear ht'))
  obtain rfl := xAe ht
  clear ht
  obtain ⟨g1, g2, g3, g4, g5⟩ := k8.out j hj
  obtain ⟨l1, l2, l3, l4⟩ := k7.out (j + 1) (by omega)
  have l5 := (k7.out j (by omega)).2.1
  obtain ⟨Q, hQ⟩ : ∃ Q, R (j + 1) / S (j + 1) = Q := ⟨_, rfl⟩
  rw [hQ] at g5
  have lQ : Q < m := by
   rw [← hQ, Nat.div_lt_iff_lt_mul (by omega)]
   have := Nat.mul_le_mul_left m (show 2 ≤ S (j + 1) by omega)
   omega
  obtain ⟨T, hT⟩ : ∃ T, mulN Q (Y (j + 1)) m = T := ⟨_, rfl⟩
  have lT : T < m := by rw [← hT, xCm]; exact Nat.mod_lt _ (by omega)
  rw [hT] at g5
  have dq := rd_lit (q := Q) (r := S j) (e := 0) (show R (j + 1) < B by omega) (show S (j + 1) < B by omega) (by rw [xEw, hQ]) (by rw [xEs (by omega), g3]) (by rw [if_neg (by omega)])
  obtain ⟨q0, hq0⟩ : ∃ q0, quo0 Q m = q0 := ⟨_, rfl⟩
  have dm := rd_lit (r := Q) (e := 0) (show Q < B by omega) hm hq0 (by rw [xEs (by omega), Nat.mod_eq_of_lt lQ]) (by rw [if_neg (by omega)])
  have tq := fun w => xEp Q (Y (j + 1)) m lQ l4 hm w
  rw [hT] at tq
  have sq := fun w => ref04_sub (X (j + 1)) T m (by omega) (by omega) hm w
  rw [if_pos ⟨h1, l3, lT⟩, if_pos ⟨h1, l3, lT⟩, ← g5] at sq
  have es' : eqN (S (j + 1)) n1 = false := xDq (by omega) L1 (by have := hn1.out; omega)
  have gR := Held.mk g2
  have gX := Held.mk g4
  clear g1 g2 g3 g4 g5 l1 l2 l3 l4 l5 hQ lQ hT lT hq0 es
  generalize S (j + 1) = s at *
  generalize R (j + 1) = r at *
  generalize X (j + 1) = x at *
  generalize Y (j + 1) = y at *
  go_wp2_with (fail)
  refine xAd hR [0, 0, 0] [] xBd (by kernel_rfl) rfl rfl (fun K hK => ?_)
  clear hR
  repeat ((first | (refine' aIq ?ha ?_) | ((refine' xAm (by decide) rfl rfl rfl rfl (fun w => ?hq) ?ha ?_); (case hq => go_simp; try rfl)) | (refine' xAk rfl rfl rfl (xAi Tryz.func131 (by kernel_rfl) (by kernel_rfl) _) (fun w => o1 w) ?ha ?_)); try (case ha => simp only [kP, kQ, kA, kB]; try rfl))
  refine xAo (hK _ _ ?_)
  clear hK K
  refine xAr (fun Q hQ => ?_)
  try simp only [List.nil_append, List.cons_append]
  repeat ((fail); (case hk => intro p hp; first | exact absurd hp List.not_mem_nil | (obtain rfl := List.mem_singleton.1 hp; repeat (first | exact List.Mem.head _ | apply mT))); (case ha => simp only [kP, kQ, kA, kB]; try rfl))
  refine xAs (fun w hR => hQ _ _ ?_)
  clear hQ Q
  go_wp2_with (first | (refine' aBq hR ?_; clear hR; intro blk w hR) | (refine' aEq hR ?_) | (refine' aFq hR ?_; clear hR; intro w hR) | (go_at_call 130; refine (dq _).mono ?_; rintro e w ⟨rfl, hb⟩; replace hR := hR.call hb; clear hb) | (go_at_call 130; refine (dm _).mono ?_; rintro e w ⟨rfl, hb⟩; replace hR := hR.call hb; clear hb))
  refine' xCg hR [1, 1, 1, 1, 1, 1, 1, 1, 1, 1, 2, 2, 2] 10 13 _ _ [11, 12] xBd (by kernel_rfl) rfl rfl rfl rfl rfl (xFb rfl rfl ?z1) ?_
  case z1 => exact inferInstance
  intro K hK
  clear hR
  repeat ((first | (refine xAp ?_) | (refine' xAj (by decide) rfl (.inl rfl) rfl ?ha ?_) | (refine' xBu rfl rfl rfl inferInstance ?hm ?hn ?ha ?_; (case hm => first | with_reducible assumption | repeat (first | exact .head _ | apply mT)); (case hn => first | rfl | simp)) | ((refine' xAt (by decide) rfl rfl rfl (fun w => ?hq) ?ha ?_); (case hq => go_simp; try rfl)) | (refine' xBk rfl rfl rfl (xAi Tryz.func213 (by kernel_rfl) (by kernel_rfl) _) (fun w => tq w) ?ha ?_) | (refine' xBk rfl rfl rfl (xAi Tryz.func200 (by kernel_rfl) (by kernel_rfl) _) (fun w => sq w) ?ha ?_)); try (case ha => simp only [kP, kQ, kA, kB]; try rfl))
  try simp only [List.nil_append, List.cons_append]
  refine xAo (hK _ _ (fun _ => ?_))
  clear hK K
  refine xAr (fun Q hQ => ?_)
  simp only [kP, kQ, kA, kB]
  repeat ((first | refine' xBf rfl (.inr rfl) rfl ?hk ?ha ?_ | (refine' aKq ?hk ?ha ?_)); (case hk => intro p hp; repeat (first | exact hp | apply mT)); (case ha => simp only [kP, kQ, kA, kB]; try rfl))
  refine xAs (fun w hR => hQ _ _ ?_)
  clear hQ Q
  go_wp2_with (first | (refine' aEq hR ?_) | (refine' aFq hR ?_; clear hR; intro w hR))
  refine hK.out _ _ (xAf rfl rfl rfl) ?_
  show Rep _ _ ((_, .cells (nl (Y j)).toArray _) :: (_, .cells (nl (X j)).toArray _) :: (_, .cells (nl (S j)).toArray _) :: (_, .cells (nl (R j)).toArray _) :: _) _
  rw [gR.out, gX.out]
  exact hR.weaken (List.sublist_append_right [_, _, _] _)
 case he =>
  clear hR
  intro tm w ht hR K
  repeat (first | (obtain ⟨x, tm', e, ht'⟩ := xAc ht; clear ht; subst e; have ht := ht'; clear ht') | (obtain ⟨tm', e, ht'⟩ := xAa ht; clear ht; subst e; have ht := ht'; clear ht'))
  obtain rfl := xAe ht
  clear ht
  have e1 : eqN (S 0) n1 = true := xFw k5.out
  go_wp2_with (fail)
  refine xAd hR [0, 0, 0] [] xBd (by kernel_rfl) rfl rfl (fun K hK => ?_)
  clear hR
  repeat ((first | (refine' aIq ?ha ?_) | ((refine' xAm (by decide) rfl rfl rfl rfl (fun w => ?hq) ?ha ?_); (case hq => go_simp; try rfl)) | (refine' xAk rfl rfl rfl (xAi Tryz.func131 (by kernel_rfl) (by kernel_rfl) _) (fun w => o1 w) ?ha ?_)); try (case ha => simp only [kP, kQ, kA, kB]; try rfl))
  refine xAo (hK _ _ ?_)
  clear hK K
  refine xAr (fun Q hQ => ?_)
  try simp only [List.nil_append, List.cons_append]
  repeat ((fail); (case hk => intro p hp; first | exact absurd hp List.not_mem_nil | (obtain rfl := List.mem_singleton.1 hp; repeat (first | exact List.Mem.head _ | apply mT))); (case ha => simp only [kP, kQ, kA, kB]; try rfl))
  refine xAs (fun w hR => hQ _ _ ?_)
  clear hQ Q
  go_wp2_with (first | (refine' aEq hR ?_) | (refine' aFq hR ?_; clear hR; intro w hR))
  (refine' bodyPost_ret (xAh Tryz.results179 rfl (hR.loadAll (P := Tryz.prog) (ty := 24) ?hm ?hn)) rfl ⟨?_, hR.below⟩; (case hm => first | with_reducible assumption | repeat (first | exact .head _ | apply mT)); (case hn => first | rfl | simp))
  rfl
theorem ref04_inv (a m : Nat) (ha : a < B) (hm : m < B) (w : World) : Calls Tryz.prog 179 #[num a, num m] w fun e w' =>
  e = .returned (.tuple #[num (if okE a m then invM a m else 0), .int .i64 (invE a m)]) ∧ Below w.heap.size w w' := by
 have cm := fun w => xDh a a m ha ha hm w
 unfold invE
 by_cases ok : okE a m
 ·rw [if_pos ok, if_pos ok]
  by_cases hg : Nat.gcd a m = 1
  ·rw [if_pos hg]
   exact refInv_yes a m ok.1 ok.2 hm hg w
  ·rw [if_neg hg, invM_no hg]
   rw [decide_eq_true (show okM a a m from ⟨ok.1, ok.2, ok.2⟩)] at cm
   obtain ⟨n1, hn1⟩ : ∃ n, n = 1 := ⟨_, rfl⟩
   have L1 : n1 < B := lt_B (by omega)
   have o1 : ∀ w, Calls Tryz.prog 131 #[.int .u64 1] w fun e w' => e = .returned (num n1) ∧ Below w.heap.size w w' := fun w => by
    rw [hn1]; exact xCw 1 (by decide) w
   have cg := fun w => xHf a m ha hm w
   rw [xGv] at cg
   have eg : eqN (Nat.gcd a m) n1 = false := xDq (gcd_lt_B ha hm) L1 (by omega)
   generalize Nat.gcd a m = G at *
   clear ok hg L1 hn1
   have hR := Rep.init w
   go_enter Tryz.func179, Tryz.ntmps179
   go_wp2_with (first | (refine' aAq hR ?_; clear hR; intro blk w hR) | (refine' aBq hR ?_; clear hR; intro blk w hR) | (refine' aEq hR ?_) | (refine' aFq hR ?_; clear hR; intro w hR) | (go_at_call 211; refine (cm _).mono ?_; rintro e w ⟨rfl, hb⟩; replace hR := hR.call hb; clear hb) | (go_at_call 212; refine (cg _).mono ?_; rintro e w ⟨rfl, hb⟩; replace hR := hR.call hb; clear hb) | (go_at_call 131; refine (o1 _).mono ?_; rintro e w ⟨rfl, hb⟩; replace hR := hR.call hb; clear hb))
   (refine' bodyPost_ret (xAh Tryz.results179 rfl (hR.loadAll (P := Tryz.prog) (ty := 24) ?hm ?hn)) rfl ⟨?_, hR.below⟩; (case hm => first | with_reducible assumption | repeat (first | exact .head _ | apply mT)); (case hn => first | rfl | simp))
   rw [xBe]
   rfl
 ·rw [if_neg ok, if_neg ok]
  rw [decide_eq_false (fun h : okM a a m => ok ⟨h.1, h.2.1⟩)] at cm
  clear ok
  have hR := Rep.init w
  go_enter Tryz.func179, Tryz.ntmps179
  go_wp2_with (first | (refine' aAq hR ?_; clear hR; intro blk w hR) | (refine' aBq hR ?_; clear hR; intro blk w hR) | (refine' aEq hR ?_) | (refine' aFq hR ?_; clear hR; intro w hR) | (go_at_call 211; refine (cm _).mono ?_; rintro e w ⟨rfl, hb⟩; replace hR := hR.call hb; clear hb))
  (refine' bodyPost_ret (xAh Tryz.results179 rfl (hR.loadAll (P := Tryz.prog) (ty := 24) ?hm ?hn)) rfl ⟨?_, hR.below⟩; (case hm => first | with_reducible assumption | repeat (first | exact .head _ | apply mT)); (case hn => first | rfl | simp))
  rw [xBe]
  rfl
end
end Go.Proofs.YtaaahfjpnggkbaaGreatDoor
