/- The contracts of balefireref03.Div, Common. -/
import Derived.Test.YtdagdfcbnhfdkaaMRef03
import Derived.Test.YtdagdfcbnhfdkaaMD
set_option linter.unusedVariables false
set_option linter.unusedSimpArgs false
namespace Go.Proofs.Ytdagdfcbnhfdkaa
open Go.RowKit
attribute [local irreducible] Calls
theorem wd_addbit_at (Q j i : Nat) (hQ : Q % 2 ^ (j + 1) = 0) (hj : j / 64 = i) : IntKind.u64.wrap (wd Q i + IntKind.u64.wrap (1 * 2 ^ (j % 64))) = wd (Q + 1 * 2 ^ j) i := by
  rw [xCr, xCr]
  obtain ⟨t, rfl⟩ := Nat.dvd_of_mod_eq_zero hQ
  have pw : 18446744073709551616 ^ i = 2 ^ (64 * i) := by rw [Nat.pow_mul]
  have e0 : j = 64 * i + j % 64 := by omega
  have l : j % 64 < 64 := Nat.mod_lt _ (by decide)
  generalize j % 64 = e at *
  subst e0
  have hp : 2 ^ (64 * i + e + 1) = 2 ^ (64 * i) * 2 ^ (e + 1) := by rw [Nat.add_assoc, Nat.pow_add]
  have hp2 : 2 ^ (64 * i + e) = 2 ^ (64 * i) * 2 ^ e := by rw [Nat.pow_add]
  have es : 1 * 2 ^ e < 2 ^ (e + 1) := by
    rw [Nat.pow_succ, Nat.mul_comm]
    exact Nat.mul_lt_mul_of_pos_left (by decide) (Nat.two_pow_pos _)
  have el : 2 ^ (e + 1) ∣ 2 ^ 64 := Nat.pow_dvd_pow 2 (by omega)
  have ew : 1 * 2 ^ e < 2 ^ 64 := Nat.lt_of_lt_of_le es (Nat.le_of_dvd (by decide) el)
  have c : IntKind.u64.wrap (1 * (2 : Int) ^ e) = ((1 * 2 ^ e : Nat) : Int) := by
    rw [IntKind.wrap_u64]
    have : (1 * (2 : Int) ^ e) = ((1 * 2 ^ e : Nat) : Int) := by simp
    rw [this]
    omega
  have d1 : 2 ^ (64 * i) * 2 ^ (e + 1) * t / 2 ^ (64 * i) = 2 ^ (e + 1) * t := by rw [Nat.mul_assoc, Nat.mul_div_cancel_left _ (Nat.two_pow_pos _)]
  have d2 : (2 ^ (64 * i) * 2 ^ (e + 1) * t + 1 * (2 ^ (64 * i) * 2 ^ e)) / 2 ^ (64 * i) = 2 ^ (e + 1) * t + 1 * 2 ^ e := by
    rw [show 2 ^ (64 * i) * 2 ^ (e + 1) * t + 1 * (2 ^ (64 * i) * 2 ^ e) = 2 ^ (64 * i) * (2 ^ (e + 1) * t + 1 * 2 ^ e) by grind, Nat.mul_div_cancel_left _ (Nat.two_pow_pos _)]
  rw [pw, hp, hp2, c, d1, d2]
  obtain ⟨g, hg⟩ := el
  have m1 : 2 ^ (e + 1) * t % 18446744073709551616 = 2 ^ (e + 1) * (t % g) := by
    rw [show (18446744073709551616 : Nat) = 2 ^ 64 from rfl, hg, Nat.mul_mod_mul_left]
  have m2 : (2 ^ (e + 1) * t + 1 * 2 ^ e) % 18446744073709551616 = 2 ^ (e + 1) * (t % g) + 1 * 2 ^ e := by
    rw [show (18446744073709551616 : Nat) = 2 ^ 64 from rfl, hg, Nat.mod_mul, Nat.mul_add_div (Nat.two_pow_pos _), Nat.div_eq_of_lt es, Nat.mul_add_mod, Nat.mod_eq_of_lt es, Nat.add_zero]
    exact Nat.add_comm _ _
  have m3 : (2 ^ (e + 1) * t + 1 * 2 ^ e) % 18446744073709551616 < 18446744073709551616 := Nat.mod_lt _ (by decide)
  rw [m1, m2, IntKind.wrap_u64]
  rw [m2] at m3
  generalize 2 ^ (e + 1) * (t % g) = A at *
  generalize 1 * 2 ^ e = D at *
  omega
theorem nl_addbit (Q j : Nat) (hj : j < 256) (hQ : Q % 2 ^ (j + 1) = 0) :
    (nl Q).set (j / 64) (.int .u64 (IntKind.u64.wrap (wd Q (j / 64) + IntKind.u64.wrap (1 * 2 ^ (j % 64))))) = nl (Q + 1 * 2 ^ j) := by
  rw [wd_addbit_at Q j _ hQ rfl]
  have k : ∀ i, j / 64 ≠ i → wd (Q + 1 * 2 ^ j) i = wd Q i := fun i => wd_setbit Q 1 j i (by decide) hQ
  have : j / 64 = 0 ∨ j / 64 = 1 ∨ j / 64 = 2 ∨ j / 64 = 3 := by omega
  rcases this with h | h | h | h <;> rw [h] at k ⊢ <;> unfold nl <;> simp only [kA, kB]
  · rw [k 1 (by decide), k 2 (by decide), k 3 (by decide)]
  · rw [k 0 (by decide), k 2 (by decide), k 3 (by decide)]
  · rw [k 0 (by decide), k 1 (by decide), k 3 (by decide)]
  · rw [k 0 (by decide), k 1 (by decide), k 2 (by decide)]
set_option maxRecDepth 100000 in
set_option maxHeartbeats 1000000 in
theorem refDiv_none (a : Nat) (ha : a < B) (w : World) : Calls Try.prog 60 #[num a, num 0] w fun e w' =>
    e = .returned (.tuple #[num 0, num 0, .int .i64 1]) ∧ Below w.heap.size w w' := by
  have z := eqN_self 0
  have hR := Rep.init w
  go_enter Try.func60, Try.ntmps60
  go_wp2_with (first | (refine' xAb hR rfl rfl rfl ?_; clear hR; intro blk w hR) | (refine' xAa hR rfl rfl inferInstance ?_; clear hR; intro blk w hR) | (refine' aAq hR rfl rfl rfl inferInstance ?_) | (refine' aBq hR rfl rfl rfl inferInstance ?_) | (refine' aCq hR rfl rfl rfl inferInstance ?_) | (refine' aDq hR rfl rfl rfl inferInstance rfl ?_; clear hR; intro w hR) | (refine' aEq hR rfl rfl rfl inferInstance rfl rfl ?_; clear hR; intro w hR) | fail)
  (refine' bodyPost_ret (results_ccr Try.results60 rfl (hR.loadAll (P := Try.prog) (ty := 24) ?hm ?hn) rfl (hR.loadAll (P := Try.prog) (ty := 24) ?hm2 ?hn2)) rfl ⟨?_, hR.below⟩; (case hm => first | with_reducible assumption | repeat (first | exact .head _ | apply mT)); (case hn => first | rfl | simp); (case hm2 => first | with_reducible assumption | repeat (first | exact .head _ | apply mT)); (case hn2 => first | rfl | simp))
  rw [xCe]
  rfl
set_option maxRecDepth 100000 in
set_option maxHeartbeats 1000000 in
theorem refDiv_short (a b : Nat) (h0 : b ≠ 0) (ha : a < 18446744073709551616) (hb : b < 18446744073709551616) (w : World) : Calls Try.prog 60 #[num a, num b] w fun e w' =>
    e = .returned (.tuple #[num (quo0 a b), num (rem0 a b), .int .i64 0]) ∧ Below w.heap.size w w' := by
  have z := xBz (lt_B hb) B_pos h0
  have ca := xCd a (lt_B ha)
  have cb := xCd b (lt_B hb)
  rw [decide_eq_true ha] at ca
  rw [decide_eq_true hb] at cb
  have ea : wd a 0 = (a : Int) := by rw [wd_eq]; unfold w64; omega
  have eb : wd b 0 = (b : Int) := by rw [wd_eq]; unfold w64; omega
  have cq := xCm (quo0 a b) (by rw [xCn]; exact Nat.lt_of_le_of_lt (Nat.div_le_self _ _) ha)
  have cr := xCm (rem0 a b) (by rw [rem0_pos h0]; exact Nat.lt_trans (Nat.mod_lt _ (by omega)) hb)
  have eq : (a : Int) / (b : Int) = (quo0 a b : Int) := by rw [xCn]; simp
  have er : (a : Int).tmod (b : Int) = (rem0 a b : Int) := by rw [rem0_pos h0, Int.tmod_eq_emod_of_nonneg (by omega)]; simp
  have eb0 : ((b : Int) == 0) = false := by simp [h0]
  have eb1 : ¬ (b : Int) = 0 := by omega
  have ea0 : 0 ≤ (a : Int) := by omega
  have eq0 : 0 ≤ (quo0 a b : Int) := by omega
  have eq1 : (quo0 a b : Int) < 18446744073709551616 := by
    have := Nat.lt_of_le_of_lt (Nat.div_le_self a b) ha
    rw [xCn]; omega
  have eq2 : IntKind.u64.wrap (quo0 a b : Int) = (quo0 a b : Int) := by rw [IntKind.wrap_u64]; omega
  generalize quo0 a b = q at *
  generalize rem0 a b = r at *
  have hR := Rep.init w
  go_enter Try.func60, Try.ntmps60
  go_wp2_with (first | (refine' xAb hR rfl rfl rfl ?_; clear hR; intro blk w hR) | (refine' xAa hR rfl rfl inferInstance ?_; clear hR; intro blk w hR) | (refine' aAq hR rfl rfl rfl inferInstance ?_) | (refine' aBq hR rfl rfl rfl inferInstance ?_) | (refine' aCq hR rfl rfl rfl inferInstance ?_) | (refine' aDq hR rfl rfl rfl inferInstance rfl ?_; clear hR; intro w hR) | (refine' aEq hR rfl rfl rfl inferInstance rfl rfl ?_; clear hR; intro w hR) | (refine' xAg hR rfl rfl rfl inferInstance ?hm ?hn ?_; (case hm => first | with_reducible assumption | repeat (first | exact .head _ | apply mT)); (case hn => first | rfl | simp)) | (refine' xAc hR rfl rfl rfl inferInstance ?hm ?hv ?_; (case hm => first | with_reducible assumption | repeat (first | exact .head _ | apply mT)); (case hv => first | rfl | with_reducible assumption)) | (go_at_call 95; refine (ca _).mono ?_; rintro e w ⟨rfl, hb⟩; replace hR := hR.call hb; clear hb) | (go_at_call 95; refine (cb _).mono ?_; rintro e w ⟨rfl, hb⟩; replace hR := hR.call hb; clear hb))
  refine xAf hR [0, 0, 0, 0, 0, 0, 0, 0, 0, 0, 0, 0, 2, 2, 2] [] xBx (by kernel_rfl) rfl rfl (fun K hK => ?_)
  clear hR
  repeat ((first | (refine xBl ?_) | (refine' xAt (by decide) rfl (.inl rfl) rfl ?ha ?_) | (refine' xAt (by decide) rfl (.inr rfl) rfl ?ha ?_) | (refine' xAr rfl rfl rfl inferInstance ?hm ?hn ?ha ?_; (case hm => first | with_reducible assumption | repeat (first | exact .head _ | apply mT)); (case hn => first | rfl | simp)) | (refine' xAo rfl rfl rfl inferInstance ?hm ?hv ?hn ?ha ?_; (case hm => first | with_reducible assumption | repeat (first | exact .head _ | apply mT)); (case hv => first | with_reducible assumption | (simp only [kC, kD, kE, kF]; try rfl)); (case hn => first | rfl | simp)) | (refine' xAi rfl rfl rfl inferInstance ?hm ?hv ?ha ?_; (case hm => first | with_reducible assumption | repeat (first | exact .head _ | apply mT)); (case hv => first | rfl | with_reducible assumption)) | (refine' xAv rfl rfl rfl inferInstance ?hm ?hv ?hn ?ha ?_; (case hm => first | with_reducible assumption | repeat (first | exact .head _ | apply mT)); (case hv => first | with_reducible assumption | (simp only [kC, kD, kE, kF]; try rfl)); (case hn => first | rfl | simp)) | (refine' xAn rfl rfl rfl inferInstance ?hm ?hv ?ha ?_; (case hm => first | with_reducible assumption | repeat (first | exact .head _ | apply mT)); (case hv => first | rfl | with_reducible assumption)) | ((first | refine' xAe (by decide) rfl rfl rfl rfl (fun w => ?hq) ?ha ?_ | refine' xBb (by decide) rfl rfl rfl rfl (fun w => ?hq) ?ha ?_ | refine' xAp (by decide) rfl rfl rfl (fun w => ?hq) ?ha ?_ | refine' xAd (by decide) rfl rfl rfl (fun w => ?hq) ?ha ?_ | refine' xAq (by decide) rfl rfl rfl (fun w => ?hq) ?ha ?_ | refine' xBa (by decide) rfl rfl rfl rfl (fun w => ?hq) ?ha ?_ | refine' xBf (by decide) rfl rfl rfl rfl rfl rfl (fun w => ?hq) ?ha ?_ | refine' xBd (by decide) rfl rfl (fun w => ?hq) ?ha ?_ | refine' xAw (by decide) rfl rfl rfl (fun w => ?hq) ?ha ?_ | refine' xBe (by decide) rfl rfl rfl (fun w => ?hq) ?ha ?_); (case hq => go_simp; try rfl)) | (refine' xAm (by decide) rfl rfl rfl ?ha ?_) | (refine' xBi (by decide) rfl rfl rfl rfl ?ha ?_) | (refine' xBk (by decide) rfl ?ha ?_) | (refine' xBc rfl rfl rfl (xBh Try.func93 (by kernel_rfl) (by kernel_rfl) _) (fun w => cq w) ?ha ?_) | (refine' xBc rfl rfl rfl (xBh Try.func93 (by kernel_rfl) (by kernel_rfl) _) (fun w => cr w) ?ha ?_)); try (case ha => simp only [kP, kQ, kA, kB]; try rfl))
  refine xBp (hK _ _ ?_)
  clear hK K
  refine xBo (fun Q hQ => ?_)
  try simp only [List.nil_append, List.cons_append]
  repeat ((first | refine' xAx rfl (.inl rfl) rfl ?hk ?ha ?_ | refine' xAx rfl (.inr rfl) rfl ?hk ?ha ?_ | (refine' xAl rfl rfl rfl inferInstance rfl ?hs rfl rfl ?hn ?hk ?ha ?_; (case hs => repeat (first | exact xAs.head | apply xAs.tail)); (case hn => first | rfl | simp)) | (refine' xAh rfl rfl rfl inferInstance rfl rfl ?hs ?hn ?hl ?hk ?ha ?_; (case hs => repeat (first | exact xAs.head | apply xAs.tail)); (case hn => first | exact oD rfl | (show _ < 4; with_reducible assumption) | (simp; try omega)); (case hl => first | with_reducible assumption | (simp only [nl, kA, kB]; first | done | rfl) | rfl)) | (refine' xAk rfl rfl rfl inferInstance rfl rfl ?hvn ?hs ?hn ?hl ?hk ?ha ?_; (case hvn => first | rfl | simp); (case hs => repeat (first | exact xAs.head | apply xAs.tail)); (case hn => first | exact oD rfl | (show _ < 4; with_reducible assumption) | (simp; try omega)); (case hl => first | with_reducible assumption | (simp only [nl, kA, kB]; first | done | rfl) | rfl)) | (refine' xBj rfl (fun w => ?hq) ?hk ?ha ?_; (case hq => go_simp; try rfl))); (case hk => intro p hp; first | exact absurd hp List.not_mem_nil | (obtain rfl := List.mem_singleton.1 hp; repeat (first | exact List.Mem.head _ | apply mT))); (case ha => simp only [kP, kQ, kA, kB]; try rfl))
  refine xBn (fun w hR => hQ _ _ ?_)
  clear hQ Q
  go_wp2_with (first | (refine' xAb hR rfl rfl rfl ?_; clear hR; intro blk w hR) | (refine' xAa hR rfl rfl inferInstance ?_; clear hR; intro blk w hR) | (refine' aAq hR rfl rfl rfl inferInstance ?_) | (refine' aBq hR rfl rfl rfl inferInstance ?_) | (refine' aCq hR rfl rfl rfl inferInstance ?_) | (refine' aDq hR rfl rfl rfl inferInstance rfl ?_; clear hR; intro w hR) | (refine' aEq hR rfl rfl rfl inferInstance rfl rfl ?_; clear hR; intro w hR) | fail)
  (refine' bodyPost_ret (results_ccr Try.results60 rfl (hR.loadAll (P := Try.prog) (ty := 24) ?hm ?hn) rfl (hR.loadAll (P := Try.prog) (ty := 24) ?hm2 ?hn2)) rfl ⟨?_, hR.below⟩; (case hm => first | with_reducible assumption | repeat (first | exact .head _ | apply mT)); (case hn => first | rfl | simp); (case hm2 => first | with_reducible assumption | repeat (first | exact .head _ | apply mT)); (case hn2 => first | rfl | simp))
  rfl
set_option maxRecDepth 100000 in
set_option maxHeartbeats 4000000 in
theorem refDiv_long (a b : Nat) (ha : a < B) (hb : b < B) (h0 : b ≠ 0) (hs : ¬ (a < 18446744073709551616 ∧ b < 18446744073709551616)) (w : World) : Calls Try.prog 60 #[num a, num b] w fun e w' =>
    e = .returned (.tuple #[num (quo0 a b), num (rem0 a b), .int .i64 0]) ∧ Below w.heap.size w w' := by
  have z := xBz hb B_pos h0
  have ca := xCd a ha
  have cb := xCd b hb
  have a256 : a < 2 ^ 256 := by rw [B_eq] at ha; exact ha
  have hR := Rep.init w
  go_enter Try.func60, Try.ntmps60
  by_cases hsa : a < 18446744073709551616
  case' pos =>
    have hsb : ¬ b < 18446744073709551616 := fun h => hs ⟨hsa, h⟩
    rw [decide_eq_true hsa] at ca
    rw [decide_eq_false hsb] at cb
    go_wp2_with (first | (refine' xAb hR rfl rfl rfl ?_; clear hR; intro blk w hR) | (refine' xAa hR rfl rfl inferInstance ?_; clear hR; intro blk w hR) | (refine' aAq hR rfl rfl rfl inferInstance ?_) | (refine' aBq hR rfl rfl rfl inferInstance ?_) | (refine' aCq hR rfl rfl rfl inferInstance ?_) | (refine' aDq hR rfl rfl rfl inferInstance rfl ?_; clear hR; intro w hR) | (refine' aEq hR rfl rfl rfl inferInstance rfl rfl ?_; clear hR; intro w hR) | (refine' xAg hR rfl rfl rfl inferInstance ?hm ?hn ?_; (case hm => first | with_reducible assumption | repeat (first | exact .head _ | apply mT)); (case hn => first | rfl | simp)) | (refine' xAc hR rfl rfl rfl inferInstance ?hm ?hv ?_; (case hm => first | with_reducible assumption | repeat (first | exact .head _ | apply mT)); (case hv => first | rfl | with_reducible assumption)) | (go_at_call 95; refine (ca _).mono ?_; rintro e w ⟨rfl, hb⟩; replace hR := hR.call hb; clear hb) | (go_at_call 95; refine (cb _).mono ?_; rintro e w ⟨rfl, hb⟩; replace hR := hR.call hb; clear hb))
  case' neg =>
    rw [decide_eq_false hsa] at ca
    go_wp2_with (first | (refine' xAb hR rfl rfl rfl ?_; clear hR; intro blk w hR) | (refine' xAa hR rfl rfl inferInstance ?_; clear hR; intro blk w hR) | (refine' aAq hR rfl rfl rfl inferInstance ?_) | (refine' aBq hR rfl rfl rfl inferInstance ?_) | (refine' aCq hR rfl rfl rfl inferInstance ?_) | (refine' aDq hR rfl rfl rfl inferInstance rfl ?_; clear hR; intro w hR) | (refine' aEq hR rfl rfl rfl inferInstance rfl rfl ?_; clear hR; intro w hR) | (refine' xAg hR rfl rfl rfl inferInstance ?hm ?hn ?_; (case hm => first | with_reducible assumption | repeat (first | exact .head _ | apply mT)); (case hn => first | rfl | simp)) | (refine' xAc hR rfl rfl rfl inferInstance ?hm ?hv ?_; (case hm => first | with_reducible assumption | repeat (first | exact .head _ | apply mT)); (case hv => first | rfl | with_reducible assumption)) | (go_at_call 95; refine (ca _).mono ?_; rintro e w ⟨rfl, hb⟩; replace hR := hR.call hb; clear hb) | (go_at_call 95; refine (cb _).mono ?_; rintro e w ⟨rfl, hb⟩; replace hR := hR.call hb; clear hb))
  all_goals
    clear z ca cb
    (first | (rename_i bq; change Nat at bq) | (rename_i bq _; change Nat at bq) | (rename_i bq _ _; change Nat at bq) | (rename_i bq _ _ _; change Nat at bq) | (rename_i bq _ _ _ _; change Nat at bq) | (rename_i bq _ _ _ _ _; change Nat at bq) | (rename_i bq _ _ _ _ _ _; change Nat at bq) | (rename_i bq _ _ _ _ _ _ _; change Nat at bq) | (rename_i bq _ _ _ _ _ _ _ _; change Nat at bq) | (rename_i bq _ _ _ _ _ _ _ _ _; change Nat at bq) | (rename_i bq _ _ _ _ _ _ _ _ _ _; change Nat at bq) | (rename_i bq _ _ _ _ _ _ _ _ _ _ _; change Nat at bq) | (rename_i bq _ _ _ _ _ _ _ _ _ _ _ _; change Nat at bq) | (rename_i bq _ _ _ _ _ _ _ _ _ _ _ _ _; change Nat at bq) | (rename_i bq _ _ _ _ _ _ _ _ _ _ _ _ _ _; change Nat at bq) | (rename_i bq _ _ _ _ _ _ _ _ _ _ _ _ _ _ _; change Nat at bq) | (rename_i bq _ _ _ _ _ _ _ _ _ _ _ _ _ _ _ _; change Nat at bq) | (rename_i bq _ _ _ _ _ _ _ _ _ _ _ _ _ _ _ _ _; change Nat at bq) | (rename_i bq _ _ _ _ _ _ _ _ _ _ _ _ _ _ _ _ _ _; change Nat at bq) | (rename_i bq _ _ _ _ _ _ _ _ _ _ _ _ _ _ _ _ _ _ _; change Nat at bq))
    (first | (rename_i c2; change Nat at c2) | (rename_i c2 _; change Nat at c2) | (rename_i c2 _ _; change Nat at c2) | (rename_i c2 _ _ _; change Nat at c2) | (rename_i c2 _ _ _ _; change Nat at c2) | (rename_i c2 _ _ _ _ _; change Nat at c2) | (rename_i c2 _ _ _ _ _ _; change Nat at c2) | (rename_i c2 _ _ _ _ _ _ _; change Nat at c2) | (rename_i c2 _ _ _ _ _ _ _ _; change Nat at c2) | (rename_i c2 _ _ _ _ _ _ _ _ _; change Nat at c2) | (rename_i c2 _ _ _ _ _ _ _ _ _ _; change Nat at c2) | (rename_i c2 _ _ _ _ _ _ _ _ _ _ _; change Nat at c2) | (rename_i c2 _ _ _ _ _ _ _ _ _ _ _ _; change Nat at c2) | (rename_i c2 _ _ _ _ _ _ _ _ _ _ _ _ _; change Nat at c2) | (rename_i c2 _ _ _ _ _ _ _ _ _ _ _ _ _ _; change Nat at c2) | (rename_i c2 _ _ _ _ _ _ _ _ _ _ _ _ _ _ _; change Nat at c2) | (rename_i c2 _ _ _ _ _ _ _ _ _ _ _ _ _ _ _ _; change Nat at c2) | (rename_i c2 _ _ _ _ _ _ _ _ _ _ _ _ _ _ _ _ _; change Nat at c2) | (rename_i c2 _ _ _ _ _ _ _ _ _ _ _ _ _ _ _ _ _ _; change Nat at c2) | (rename_i c2 _ _ _ _ _ _ _ _ _ _ _ _ _ _ _ _ _ _ _; change Nat at c2))
    (first | (rename_i c1; change Nat at c1) | (rename_i c1 _; change Nat at c1) | (rename_i c1 _ _; change Nat at c1) | (rename_i c1 _ _ _; change Nat at c1) | (rename_i c1 _ _ _ _; change Nat at c1) | (rename_i c1 _ _ _ _ _; change Nat at c1) | (rename_i c1 _ _ _ _ _ _; change Nat at c1) | (rename_i c1 _ _ _ _ _ _ _; change Nat at c1) | (rename_i c1 _ _ _ _ _ _ _ _; change Nat at c1) | (rename_i c1 _ _ _ _ _ _ _ _ _; change Nat at c1) | (rename_i c1 _ _ _ _ _ _ _ _ _ _; change Nat at c1) | (rename_i c1 _ _ _ _ _ _ _ _ _ _ _; change Nat at c1) | (rename_i c1 _ _ _ _ _ _ _ _ _ _ _ _; change Nat at c1) | (rename_i c1 _ _ _ _ _ _ _ _ _ _ _ _ _; change Nat at c1) | (rename_i c1 _ _ _ _ _ _ _ _ _ _ _ _ _ _; change Nat at c1) | (rename_i c1 _ _ _ _ _ _ _ _ _ _ _ _ _ _ _; change Nat at c1) | (rename_i c1 _ _ _ _ _ _ _ _ _ _ _ _ _ _ _ _; change Nat at c1) | (rename_i c1 _ _ _ _ _ _ _ _ _ _ _ _ _ _ _ _ _; change Nat at c1) | (rename_i c1 _ _ _ _ _ _ _ _ _ _ _ _ _ _ _ _ _ _; change Nat at c1) | (rename_i c1 _ _ _ _ _ _ _ _ _ _ _ _ _ _ _ _ _ _ _; change Nat at c1))
    (first | (rename_i bb; change Nat at bb) | (rename_i bb _; change Nat at bb) | (rename_i bb _ _; change Nat at bb) | (rename_i bb _ _ _; change Nat at bb) | (rename_i bb _ _ _ _; change Nat at bb) | (rename_i bb _ _ _ _ _; change Nat at bb) | (rename_i bb _ _ _ _ _ _; change Nat at bb) | (rename_i bb _ _ _ _ _ _ _; change Nat at bb) | (rename_i bb _ _ _ _ _ _ _ _; change Nat at bb) | (rename_i bb _ _ _ _ _ _ _ _ _; change Nat at bb) | (rename_i bb _ _ _ _ _ _ _ _ _ _; change Nat at bb) | (rename_i bb _ _ _ _ _ _ _ _ _ _ _; change Nat at bb) | (rename_i bb _ _ _ _ _ _ _ _ _ _ _ _; change Nat at bb) | (rename_i bb _ _ _ _ _ _ _ _ _ _ _ _ _; change Nat at bb) | (rename_i bb _ _ _ _ _ _ _ _ _ _ _ _ _ _; change Nat at bb) | (rename_i bb _ _ _ _ _ _ _ _ _ _ _ _ _ _ _; change Nat at bb) | (rename_i bb _ _ _ _ _ _ _ _ _ _ _ _ _ _ _ _; change Nat at bb) | (rename_i bb _ _ _ _ _ _ _ _ _ _ _ _ _ _ _ _ _; change Nat at bb) | (rename_i bb _ _ _ _ _ _ _ _ _ _ _ _ _ _ _ _ _ _; change Nat at bb) | (rename_i bb _ _ _ _ _ _ _ _ _ _ _ _ _ _ _ _ _ _ _; change Nat at bb))
    (first | (rename_i ba; change Nat at ba) | (rename_i ba _; change Nat at ba) | (rename_i ba _ _; change Nat at ba) | (rename_i ba _ _ _; change Nat at ba) | (rename_i ba _ _ _ _; change Nat at ba) | (rename_i ba _ _ _ _ _; change Nat at ba) | (rename_i ba _ _ _ _ _ _; change Nat at ba) | (rename_i ba _ _ _ _ _ _ _; change Nat at ba) | (rename_i ba _ _ _ _ _ _ _ _; change Nat at ba) | (rename_i ba _ _ _ _ _ _ _ _ _; change Nat at ba) | (rename_i ba _ _ _ _ _ _ _ _ _ _; change Nat at ba) | (rename_i ba _ _ _ _ _ _ _ _ _ _ _; change Nat at ba) | (rename_i ba _ _ _ _ _ _ _ _ _ _ _ _; change Nat at ba) | (rename_i ba _ _ _ _ _ _ _ _ _ _ _ _ _; change Nat at ba) | (rename_i ba _ _ _ _ _ _ _ _ _ _ _ _ _ _; change Nat at ba) | (rename_i ba _ _ _ _ _ _ _ _ _ _ _ _ _ _ _; change Nat at ba) | (rename_i ba _ _ _ _ _ _ _ _ _ _ _ _ _ _ _ _; change Nat at ba) | (rename_i ba _ _ _ _ _ _ _ _ _ _ _ _ _ _ _ _ _; change Nat at ba) | (rename_i ba _ _ _ _ _ _ _ _ _ _ _ _ _ _ _ _ _ _; change Nat at ba) | (rename_i ba _ _ _ _ _ _ _ _ _ _ _ _ _ _ _ _ _ _ _; change Nat at ba))
    refine' xBv (false :: false :: false :: false :: false :: false :: false :: false :: false :: false :: true :: true :: false :: false :: false :: false :: false :: false :: false :: false :: false :: false :: false :: false :: false :: false :: false :: false :: false :: false :: false :: false :: false :: false :: false :: true :: true :: true :: true :: true :: true :: true :: true :: true :: true :: true :: true :: true :: true :: true :: true :: true :: true :: true :: true :: true :: true :: true :: true :: true :: true :: true :: true :: true :: true :: true :: true :: true :: true :: true :: true :: true :: true :: true :: true :: true :: true :: true :: false :: false :: []) (fun j l => l.set 9 (.int .i64 ((j : Int) - 1))) (fun j => [(blk, .cells (nl (rN a b j)).toArray 24), (bq, .cells (nl (qN a b j)).toArray 24), (c2, .cells (nl 0).toArray 24), (c1, .cells (nl 0).toArray 24), (bb, .cells (nl b).toArray 24), (ba, .cells (nl a).toArray 24)]) 256 ?h0 ?hR ?hs ?he
    case hR =>
      show Rep _ _ [(_, .cells (nl (rN a b 256)).toArray _), (_, .cells (nl (qN a b 256)).toArray _), _, _, _, _] _
      rw [rN_top a256, qN_top a256, ← nl_zero]
      exact hR
    case h0 => exact xBg rfl rfl rfl
    case hs =>
      clear hR
      intro j tm w hj ht hR K hK
      repeat (first | (obtain ⟨x, tm', e, ht'⟩ := xAu ht; clear ht; subst e; have ht := ht'; clear ht') | (obtain ⟨tm', e, ht'⟩ := xAj ht; clear ht; subst e; have ht := ht'; clear ht'))
      obtain rfl := xAy ht
      clear ht
      obtain ⟨bit, S, hbit, hS, ebit, hRb, er, eS, hQ, eq⟩ := div_round a b j h0
      have cbit := fun w => refBit_any a (j : Int) ha w
      rw [xCo a j (by omega), ebit] at cbit
      have hx := nl_bit_add (rN a b (j + 1)) bit hbit
      obtain ⟨X, c, hX, hcc, hXB, hc⟩ := twice_cases (rN a b (j + 1)) bit b hRb hb hbit
      rw [hX] at hx
      have cad := ra_lit (s := rN a b (j + 1) + rN a b (j + 1)) (by omega : rN a b (j + 1) < B) (by omega) rfl hcc
      have hset := nl_addbit (qN a b (j + 1)) j (by omega) hQ
      rw [er, eS] at hc
      have cc := rc_lit hXB hb rfl
      have e1 : ((j + 1 : Nat) : Int) - 1 = (j : Int) := by omega
      rw [e1]
      clear ebit er eS hQ hX hcc hbit e1
      generalize rN a b (j + 1) = R at *
      generalize qN a b (j + 1) = Q at *
      generalize R + R = s at *
      have hset0 : (nl s).set 0 (.int .u64 (IntKind.u64.wrap (wd s 0 + (bit : Int)))) = nl X := by rw [← hx]; rfl
      clear hx hRb
      have hv := nl_at Q (j / 64) (by omega)
      have l0 := wd_lo Q (j / 64)
      have l1 := wd_hi Q (j / 64)
      obtain ⟨x, hx⟩ : ∃ x, j / 64 = x := ⟨_, rfl⟩
      obtain ⟨y, hy⟩ : ∃ y, j % 64 = y := ⟨_, rfl⟩
      rw [hx, hy] at hset
      rw [hx] at hv l0 l1
      have e1 : (j : Int) / 64 = (x : Int) := by omega
      have e2 : IntKind.i64.wrap (x : Int) = (x : Int) := by rw [IntKind.wrap_i64]; omega
      have e3 : (j : Int).tmod 64 = (y : Int) := by rw [Int.tmod_eq_emod_of_nonneg (by omega)]; omega
      have e4 : (j : Int) % 64 = (y : Int) := by omega
      have e5 : IntKind.i64.wrap (y : Int) = (y : Int) := by rw [IntKind.wrap_i64]; omega
      have e6 : (x : Int) < 4 := by omega
      have e7 : (y : Int) < 64 := by omega
      have e8 : 0 ≤ (x : Int) := by omega
      have e9 : 0 ≤ (y : Int) := by omega
      have e10 : x < 4 := by omega
      have kj0 : 0 ≤ (j : Int) := by omega
      have kj1 : (j : Int) < 256 := by omega
      have s0 := wd_lo s 0
      have s1 := wd_hi s 0
      clear hx hy hj a256
      rcases hc with ⟨rfl, d2, rfl⟩ | ⟨rfl, cg, d2, rfl⟩ | ⟨rfl, cg, d2, rfl⟩
      rotate_left 2
      · rw [Nat.zero_mul, Nat.add_zero] at eq
        have d3 : nl X = nl (rN a b j) := by simpa [num] using d2
        rw [← d3, ← eq] at hK
        generalize cmpN X b = t at *
        clear d2 d3 eq hS hset
        go_wp2_with (first | (refine' xAb hR rfl rfl rfl ?_; clear hR; intro blk w hR) | (refine' xAa hR rfl rfl inferInstance ?_; clear hR; intro blk w hR) | (refine' aAq hR rfl rfl rfl inferInstance ?_) | (refine' aBq hR rfl rfl rfl inferInstance ?_) | (refine' aCq hR rfl rfl rfl inferInstance ?_) | (refine' aDq hR rfl rfl rfl inferInstance rfl ?_; clear hR; intro w hR) | (refine' aEq hR rfl rfl rfl inferInstance rfl rfl ?_; clear hR; intro w hR) | (go_at_call 103; refine (cad _).mono ?_; rintro e w ⟨rfl, hb⟩; replace hR := hR.call hb; clear hb))
        refine xAf hR [0, 0, 0, 0, 0, 0, 0, 2] [] xBx (by kernel_rfl) rfl rfl (fun K hK => ?_)
        clear hR
        repeat ((first | (refine xBl ?_) | (refine' xAt (by decide) rfl (.inl rfl) rfl ?ha ?_) | (refine' xAt (by decide) rfl (.inr rfl) rfl ?ha ?_) | (refine' xAr rfl rfl rfl inferInstance ?hm ?hn ?ha ?_; (case hm => first | with_reducible assumption | repeat (first | exact .head _ | apply mT)); (case hn => first | rfl | simp)) | (refine' xAo rfl rfl rfl inferInstance ?hm ?hv ?hn ?ha ?_; (case hm => first | with_reducible assumption | repeat (first | exact .head _ | apply mT)); (case hv => first | with_reducible assumption | (simp only [kC, kD, kE, kF]; try rfl)); (case hn => first | rfl | simp)) | (refine' xAi rfl rfl rfl inferInstance ?hm ?hv ?ha ?_; (case hm => first | with_reducible assumption | repeat (first | exact .head _ | apply mT)); (case hv => first | rfl | with_reducible assumption)) | (refine' xAv rfl rfl rfl inferInstance ?hm ?hv ?hn ?ha ?_; (case hm => first | with_reducible assumption | repeat (first | exact .head _ | apply mT)); (case hv => first | with_reducible assumption | (simp only [kC, kD, kE, kF]; try rfl)); (case hn => first | rfl | simp)) | (refine' xAn rfl rfl rfl inferInstance ?hm ?hv ?ha ?_; (case hm => first | with_reducible assumption | repeat (first | exact .head _ | apply mT)); (case hv => first | rfl | with_reducible assumption)) | ((first | refine' xAe (by decide) rfl rfl rfl rfl (fun w => ?hq) ?ha ?_ | refine' xBb (by decide) rfl rfl rfl rfl (fun w => ?hq) ?ha ?_ | refine' xAp (by decide) rfl rfl rfl (fun w => ?hq) ?ha ?_ | refine' xAd (by decide) rfl rfl rfl (fun w => ?hq) ?ha ?_ | refine' xAq (by decide) rfl rfl rfl (fun w => ?hq) ?ha ?_ | refine' xBa (by decide) rfl rfl rfl rfl (fun w => ?hq) ?ha ?_ | refine' xBf (by decide) rfl rfl rfl rfl rfl rfl (fun w => ?hq) ?ha ?_ | refine' xBd (by decide) rfl rfl (fun w => ?hq) ?ha ?_ | refine' xAw (by decide) rfl rfl rfl (fun w => ?hq) ?ha ?_ | refine' xBe (by decide) rfl rfl rfl (fun w => ?hq) ?ha ?_); (case hq => go_simp; try rfl)) | (refine' xAm (by decide) rfl rfl rfl ?ha ?_) | (refine' xBi (by decide) rfl rfl rfl rfl ?ha ?_) | (refine' xBk (by decide) rfl ?ha ?_) | (refine' xBc rfl rfl rfl (xBh Try.func99 (by kernel_rfl) (by kernel_rfl) _) (fun w => cbit w) ?ha ?_)); try (case ha => simp only [kP, kQ, kA, kB]; try rfl))
        refine xBp (hK _ _ ?_)
        clear hK K
        refine xBo (fun Q hQ => ?_)
        try simp only [List.nil_append, List.cons_append]
        repeat ((first | refine' xAx rfl (.inl rfl) rfl ?hk ?ha ?_ | refine' xAx rfl (.inr rfl) rfl ?hk ?ha ?_ | (refine' xAl rfl rfl rfl inferInstance rfl ?hs rfl rfl ?hn ?hk ?ha ?_; (case hs => repeat (first | exact xAs.head | apply xAs.tail)); (case hn => first | rfl | simp)) | (refine' xAh rfl rfl rfl inferInstance rfl rfl ?hs ?hn ?hl ?hk ?ha ?_; (case hs => repeat (first | exact xAs.head | apply xAs.tail)); (case hn => first | exact oD rfl | (show _ < 4; with_reducible assumption) | (simp; try omega)); (case hl => first | with_reducible assumption | (simp only [nl, kA, kB]; first | done | rfl) | rfl)) | (refine' xAk rfl rfl rfl inferInstance rfl rfl ?hvn ?hs ?hn ?hl ?hk ?ha ?_; (case hvn => first | rfl | simp); (case hs => repeat (first | exact xAs.head | apply xAs.tail)); (case hn => first | exact oD rfl | (show _ < 4; with_reducible assumption) | (simp; try omega)); (case hl => first | with_reducible assumption | (simp only [nl, kA, kB]; first | done | rfl) | rfl)) | (refine' xBj rfl (fun w => ?hq) ?hk ?ha ?_; (case hq => go_simp; try rfl))); (case hk => intro p hp; first | exact absurd hp List.not_mem_nil | (obtain rfl := List.mem_singleton.1 hp; repeat (first | exact List.Mem.head _ | apply mT))); (case ha => simp only [kP, kQ, kA, kB]; try rfl))
        refine xBn (fun w hR => hQ _ _ ?_)
        clear hQ Q
        go_wp2_with (first | (refine' xAb hR rfl rfl rfl ?_; clear hR; intro blk w hR) | (refine' xAa hR rfl rfl inferInstance ?_; clear hR; intro blk w hR) | (refine' aAq hR rfl rfl rfl inferInstance ?_) | (refine' aBq hR rfl rfl rfl inferInstance ?_) | (refine' aCq hR rfl rfl rfl inferInstance ?_) | (refine' aDq hR rfl rfl rfl inferInstance rfl ?_; clear hR; intro w hR) | (refine' aEq hR rfl rfl rfl inferInstance rfl rfl ?_; clear hR; intro w hR) | (refine' xAg hR rfl rfl rfl inferInstance ?hm ?hn ?_; (case hm => first | with_reducible assumption | repeat (first | exact .head _ | apply mT)); (case hn => first | rfl | simp)) | (refine' xAc hR rfl rfl rfl inferInstance ?hm ?hv ?_; (case hm => first | with_reducible assumption | repeat (first | exact .head _ | apply mT)); (case hv => first | rfl | with_reducible assumption)) | (go_at_call 50; refine (cc _).mono ?_; rintro e w ⟨rfl, hb⟩; replace hR := hR.call hb; clear hb))
        exact hK.out _ _ (xBg rfl rfl rfl) hR.tail
      all_goals
        have cs := rs_lit hXB hb d2
        rw [eq, Int.one_mul] at hset
        generalize cmpN X b = t at *
        generalize bor (X : Int) (b : Int) = l at *
        clear d2 eq hS
        go_wp2_with (first | (refine' xAb hR rfl rfl rfl ?_; clear hR; intro blk w hR) | (refine' xAa hR rfl rfl inferInstance ?_; clear hR; intro blk w hR) | (refine' aAq hR rfl rfl rfl inferInstance ?_) | (refine' aBq hR rfl rfl rfl inferInstance ?_) | (refine' aCq hR rfl rfl rfl inferInstance ?_) | (refine' aDq hR rfl rfl rfl inferInstance rfl ?_; clear hR; intro w hR) | (refine' aEq hR rfl rfl rfl inferInstance rfl rfl ?_; clear hR; intro w hR) | (go_at_call 103; refine (cad _).mono ?_; rintro e w ⟨rfl, hb⟩; replace hR := hR.call hb; clear hb))
        refine xAf hR [0, 0, 0, 0, 0, 0, 0, 2] [] xBx (by kernel_rfl) rfl rfl (fun K hK => ?_)
        clear hR
        repeat ((first | (refine xBl ?_) | (refine' xAt (by decide) rfl (.inl rfl) rfl ?ha ?_) | (refine' xAt (by decide) rfl (.inr rfl) rfl ?ha ?_) | (refine' xAr rfl rfl rfl inferInstance ?hm ?hn ?ha ?_; (case hm => first | with_reducible assumption | repeat (first | exact .head _ | apply mT)); (case hn => first | rfl | simp)) | (refine' xAo rfl rfl rfl inferInstance ?hm ?hv ?hn ?ha ?_; (case hm => first | with_reducible assumption | repeat (first | exact .head _ | apply mT)); (case hv => first | with_reducible assumption | (simp only [kC, kD, kE, kF]; try rfl)); (case hn => first | rfl | simp)) | (refine' xAi rfl rfl rfl inferInstance ?hm ?hv ?ha ?_; (case hm => first | with_reducible assumption | repeat (first | exact .head _ | apply mT)); (case hv => first | rfl | with_reducible assumption)) | (refine' xAv rfl rfl rfl inferInstance ?hm ?hv ?hn ?ha ?_; (case hm => first | with_reducible assumption | repeat (first | exact .head _ | apply mT)); (case hv => first | with_reducible assumption | (simp only [kC, kD, kE, kF]; try rfl)); (case hn => first | rfl | simp)) | (refine' xAn rfl rfl rfl inferInstance ?hm ?hv ?ha ?_; (case hm => first | with_reducible assumption | repeat (first | exact .head _ | apply mT)); (case hv => first | rfl | with_reducible assumption)) | ((first | refine' xAe (by decide) rfl rfl rfl rfl (fun w => ?hq) ?ha ?_ | refine' xBb (by decide) rfl rfl rfl rfl (fun w => ?hq) ?ha ?_ | refine' xAp (by decide) rfl rfl rfl (fun w => ?hq) ?ha ?_ | refine' xAd (by decide) rfl rfl rfl (fun w => ?hq) ?ha ?_ | refine' xAq (by decide) rfl rfl rfl (fun w => ?hq) ?ha ?_ | refine' xBa (by decide) rfl rfl rfl rfl (fun w => ?hq) ?ha ?_ | refine' xBf (by decide) rfl rfl rfl rfl rfl rfl (fun w => ?hq) ?ha ?_ | refine' xBd (by decide) rfl rfl (fun w => ?hq) ?ha ?_ | refine' xAw (by decide) rfl rfl rfl (fun w => ?hq) ?ha ?_ | refine' xBe (by decide) rfl rfl rfl (fun w => ?hq) ?ha ?_); (case hq => go_simp; try rfl)) | (refine' xAm (by decide) rfl rfl rfl ?ha ?_) | (refine' xBi (by decide) rfl rfl rfl rfl ?ha ?_) | (refine' xBk (by decide) rfl ?ha ?_) | (refine' xBc rfl rfl rfl (xBh Try.func99 (by kernel_rfl) (by kernel_rfl) _) (fun w => cbit w) ?ha ?_)); try (case ha => simp only [kP, kQ, kA, kB]; try rfl))
        refine xBp (hK _ _ ?_)
        clear hK K
        refine xBo (fun Q hQ => ?_)
        try simp only [List.nil_append, List.cons_append]
        repeat ((first | refine' xAx rfl (.inl rfl) rfl ?hk ?ha ?_ | refine' xAx rfl (.inr rfl) rfl ?hk ?ha ?_ | (refine' xAl rfl rfl rfl inferInstance rfl ?hs rfl rfl ?hn ?hk ?ha ?_; (case hs => repeat (first | exact xAs.head | apply xAs.tail)); (case hn => first | rfl | simp)) | (refine' xAh rfl rfl rfl inferInstance rfl rfl ?hs ?hn ?hl ?hk ?ha ?_; (case hs => repeat (first | exact xAs.head | apply xAs.tail)); (case hn => first | exact oD rfl | (show _ < 4; with_reducible assumption) | (simp; try omega)); (case hl => first | with_reducible assumption | (simp only [nl, kA, kB]; first | done | rfl) | rfl)) | (refine' xAk rfl rfl rfl inferInstance rfl rfl ?hvn ?hs ?hn ?hl ?hk ?ha ?_; (case hvn => first | rfl | simp); (case hs => repeat (first | exact xAs.head | apply xAs.tail)); (case hn => first | exact oD rfl | (show _ < 4; with_reducible assumption) | (simp; try omega)); (case hl => first | with_reducible assumption | (simp only [nl, kA, kB]; first | done | rfl) | rfl)) | (refine' xBj rfl (fun w => ?hq) ?hk ?ha ?_; (case hq => go_simp; try rfl))); (case hk => intro p hp; first | exact absurd hp List.not_mem_nil | (obtain rfl := List.mem_singleton.1 hp; repeat (first | exact List.Mem.head _ | apply mT))); (case ha => simp only [kP, kQ, kA, kB]; try rfl))
        refine xBn (fun w hR => hQ _ _ ?_)
        clear hQ Q
        go_wp2_with (first | (refine' xAb hR rfl rfl rfl ?_; clear hR; intro blk w hR) | (refine' xAa hR rfl rfl inferInstance ?_; clear hR; intro blk w hR) | (refine' aAq hR rfl rfl rfl inferInstance ?_) | (refine' aBq hR rfl rfl rfl inferInstance ?_) | (refine' aCq hR rfl rfl rfl inferInstance ?_) | (refine' aDq hR rfl rfl rfl inferInstance rfl ?_; clear hR; intro w hR) | (refine' aEq hR rfl rfl rfl inferInstance rfl rfl ?_; clear hR; intro w hR) | (refine' xAg hR rfl rfl rfl inferInstance ?hm ?hn ?_; (case hm => first | with_reducible assumption | repeat (first | exact .head _ | apply mT)); (case hn => first | rfl | simp)) | (refine' xAc hR rfl rfl rfl inferInstance ?hm ?hv ?_; (case hm => first | with_reducible assumption | repeat (first | exact .head _ | apply mT)); (case hv => first | rfl | with_reducible assumption)) | (go_at_call 59; refine (cs _).mono ?_; rintro e w ⟨rfl, hb⟩; replace hR := hR.call hb; clear hb) | (go_at_call 50; refine (cc _).mono ?_; rintro e w ⟨rfl, hb⟩; replace hR := hR.call hb; clear hb))
        refine xAf hR [0, 0, 0, 0, 0, 0, 0, 0, 0, 0, 0, 2] [] xBx (by kernel_rfl) rfl rfl (fun K hK => ?_)
        clear hR
        repeat ((first | (refine xBl ?_) | (refine' xAt (by decide) rfl (.inl rfl) rfl ?ha ?_) | (refine' xAt (by decide) rfl (.inr rfl) rfl ?ha ?_) | (refine' xAr rfl rfl rfl inferInstance ?hm ?hn ?ha ?_; (case hm => first | with_reducible assumption | repeat (first | exact .head _ | apply mT)); (case hn => first | rfl | simp)) | (refine' xAo rfl rfl rfl inferInstance ?hm ?hv ?hn ?ha ?_; (case hm => first | with_reducible assumption | repeat (first | exact .head _ | apply mT)); (case hv => first | with_reducible assumption | (simp only [kC, kD, kE, kF]; try rfl)); (case hn => first | rfl | simp)) | (refine' xAi rfl rfl rfl inferInstance ?hm ?hv ?ha ?_; (case hm => first | with_reducible assumption | repeat (first | exact .head _ | apply mT)); (case hv => first | rfl | with_reducible assumption)) | (refine' xAv rfl rfl rfl inferInstance ?hm ?hv ?hn ?ha ?_; (case hm => first | with_reducible assumption | repeat (first | exact .head _ | apply mT)); (case hv => first | with_reducible assumption | (simp only [kC, kD, kE, kF]; try rfl)); (case hn => first | rfl | simp)) | (refine' xAn rfl rfl rfl inferInstance ?hm ?hv ?ha ?_; (case hm => first | with_reducible assumption | repeat (first | exact .head _ | apply mT)); (case hv => first | rfl | with_reducible assumption)) | ((first | refine' xAe (by decide) rfl rfl rfl rfl (fun w => ?hq) ?ha ?_ | refine' xBb (by decide) rfl rfl rfl rfl (fun w => ?hq) ?ha ?_ | refine' xAp (by decide) rfl rfl rfl (fun w => ?hq) ?ha ?_ | refine' xAd (by decide) rfl rfl rfl (fun w => ?hq) ?ha ?_ | refine' xAq (by decide) rfl rfl rfl (fun w => ?hq) ?ha ?_ | refine' xBa (by decide) rfl rfl rfl rfl (fun w => ?hq) ?ha ?_ | refine' xBf (by decide) rfl rfl rfl rfl rfl rfl (fun w => ?hq) ?ha ?_ | refine' xBd (by decide) rfl rfl (fun w => ?hq) ?ha ?_ | refine' xAw (by decide) rfl rfl rfl (fun w => ?hq) ?ha ?_ | refine' xBe (by decide) rfl rfl rfl (fun w => ?hq) ?ha ?_); (case hq => go_simp; try rfl)) | (refine' xAm (by decide) rfl rfl rfl ?ha ?_) | (refine' xBi (by decide) rfl rfl rfl rfl ?ha ?_) | (refine' xBk (by decide) rfl ?ha ?_) | fail); try (case ha => simp only [kP, kQ, kA, kB]; try rfl))
        refine xBp (hK _ _ ?_)
        clear hK K
        refine xBo (fun Q hQ => ?_)
        try simp only [List.nil_append, List.cons_append]
        repeat ((first | refine' xAx rfl (.inl rfl) rfl ?hk ?ha ?_ | refine' xAx rfl (.inr rfl) rfl ?hk ?ha ?_ | (refine' xAl rfl rfl rfl inferInstance rfl ?hs rfl rfl ?hn ?hk ?ha ?_; (case hs => repeat (first | exact xAs.head | apply xAs.tail)); (case hn => first | rfl | simp)) | (refine' xAh rfl rfl rfl inferInstance rfl rfl ?hs ?hn ?hl ?hk ?ha ?_; (case hs => repeat (first | exact xAs.head | apply xAs.tail)); (case hn => first | exact oD rfl | (show _ < 4; with_reducible assumption) | (simp; try omega)); (case hl => first | with_reducible assumption | (simp only [nl, kA, kB]; first | done | rfl) | rfl)) | (refine' xAk rfl rfl rfl inferInstance rfl rfl ?hvn ?hs ?hn ?hl ?hk ?ha ?_; (case hvn => first | rfl | simp); (case hs => repeat (first | exact xAs.head | apply xAs.tail)); (case hn => first | exact oD rfl | (show _ < 4; with_reducible assumption) | (simp; try omega)); (case hl => first | with_reducible assumption | (simp only [nl, kA, kB]; first | done | rfl) | rfl)) | (refine' xBj rfl (fun w => ?hq) ?hk ?ha ?_; (case hq => go_simp; try rfl))); (case hk => intro p hp; first | exact absurd hp List.not_mem_nil | (obtain rfl := List.mem_singleton.1 hp; repeat (first | exact List.Mem.head _ | apply mT))); (case ha => simp only [kP, kQ, kA, kB]; try rfl))
        refine xBn (fun w hR => hQ _ _ ?_)
        clear hQ Q
        go_wp2_with (first | (refine' xAb hR rfl rfl rfl ?_; clear hR; intro blk w hR) | (refine' xAa hR rfl rfl inferInstance ?_; clear hR; intro blk w hR) | (refine' aAq hR rfl rfl rfl inferInstance ?_) | (refine' aBq hR rfl rfl rfl inferInstance ?_) | (refine' aCq hR rfl rfl rfl inferInstance ?_) | (refine' aDq hR rfl rfl rfl inferInstance rfl ?_; clear hR; intro w hR) | (refine' aEq hR rfl rfl rfl inferInstance rfl rfl ?_; clear hR; intro w hR) | fail)
        exact hK.out _ _ (xBg rfl rfl rfl) hR.tail
    case he =>
      clear hR
      intro tm w ht hR K
      simp only [Int.natCast_zero, Int.zero_sub] at ht
      repeat (first | (obtain ⟨x, tm', e, ht'⟩ := xAu ht; clear ht; subst e; have ht := ht'; clear ht') | (obtain ⟨tm', e, ht'⟩ := xAj ht; clear ht; subst e; have ht := ht'; clear ht'))
      obtain rfl := xAy ht
      clear ht
      rw [rN_zero h0, qN_zero] at hR
      go_wp2_with (first | (refine' xAb hR rfl rfl rfl ?_; clear hR; intro blk w hR) | (refine' xAa hR rfl rfl inferInstance ?_; clear hR; intro blk w hR) | (refine' aAq hR rfl rfl rfl inferInstance ?_) | (refine' aBq hR rfl rfl rfl inferInstance ?_) | (refine' aCq hR rfl rfl rfl inferInstance ?_) | (refine' aDq hR rfl rfl rfl inferInstance rfl ?_; clear hR; intro w hR) | (refine' aEq hR rfl rfl rfl inferInstance rfl rfl ?_; clear hR; intro w hR) | fail)
      refine xAf hR [0, 1, 2, 2, 2] [0] xBx (by kernel_rfl) rfl rfl (fun K hK => ?_)
      clear hR
      repeat ((first | (refine xBl ?_) | (refine' xAt (by decide) rfl (.inl rfl) rfl ?ha ?_) | (refine' xAt (by decide) rfl (.inr rfl) rfl ?ha ?_) | (refine' xAr rfl rfl rfl inferInstance ?hm ?hn ?ha ?_; (case hm => first | with_reducible assumption | repeat (first | exact .head _ | apply mT)); (case hn => first | rfl | simp)) | (refine' xAo rfl rfl rfl inferInstance ?hm ?hv ?hn ?ha ?_; (case hm => first | with_reducible assumption | repeat (first | exact .head _ | apply mT)); (case hv => first | with_reducible assumption | (simp only [kC, kD, kE, kF]; try rfl)); (case hn => first | rfl | simp)) | (refine' xAi rfl rfl rfl inferInstance ?hm ?hv ?ha ?_; (case hm => first | with_reducible assumption | repeat (first | exact .head _ | apply mT)); (case hv => first | rfl | with_reducible assumption)) | (refine' xAv rfl rfl rfl inferInstance ?hm ?hv ?hn ?ha ?_; (case hm => first | with_reducible assumption | repeat (first | exact .head _ | apply mT)); (case hv => first | with_reducible assumption | (simp only [kC, kD, kE, kF]; try rfl)); (case hn => first | rfl | simp)) | (refine' xAn rfl rfl rfl inferInstance ?hm ?hv ?ha ?_; (case hm => first | with_reducible assumption | repeat (first | exact .head _ | apply mT)); (case hv => first | rfl | with_reducible assumption)) | ((first | refine' xAe (by decide) rfl rfl rfl rfl (fun w => ?hq) ?ha ?_ | refine' xBb (by decide) rfl rfl rfl rfl (fun w => ?hq) ?ha ?_ | refine' xAp (by decide) rfl rfl rfl (fun w => ?hq) ?ha ?_ | refine' xAd (by decide) rfl rfl rfl (fun w => ?hq) ?ha ?_ | refine' xAq (by decide) rfl rfl rfl (fun w => ?hq) ?ha ?_ | refine' xBa (by decide) rfl rfl rfl rfl (fun w => ?hq) ?ha ?_ | refine' xBf (by decide) rfl rfl rfl rfl rfl rfl (fun w => ?hq) ?ha ?_ | refine' xBd (by decide) rfl rfl (fun w => ?hq) ?ha ?_ | refine' xAw (by decide) rfl rfl rfl (fun w => ?hq) ?ha ?_ | refine' xBe (by decide) rfl rfl rfl (fun w => ?hq) ?ha ?_); (case hq => go_simp; try rfl)) | (refine' xAm (by decide) rfl rfl rfl ?ha ?_) | (refine' xBi (by decide) rfl rfl rfl rfl ?ha ?_) | (refine' xBk (by decide) rfl ?ha ?_) | fail); try (case ha => simp only [kP, kQ, kA, kB]; try rfl))
      refine xBp (hK _ _ ?_)
      clear hK K
      refine xBo (fun Q hQ => ?_)
      try simp only [List.nil_append, List.cons_append]
      repeat ((first | refine' xAx rfl (.inl rfl) rfl ?hk ?ha ?_ | refine' xAx rfl (.inr rfl) rfl ?hk ?ha ?_ | (refine' xAl rfl rfl rfl inferInstance rfl ?hs rfl rfl ?hn ?hk ?ha ?_; (case hs => repeat (first | exact xAs.head | apply xAs.tail)); (case hn => first | rfl | simp)) | (refine' xAh rfl rfl rfl inferInstance rfl rfl ?hs ?hn ?hl ?hk ?ha ?_; (case hs => repeat (first | exact xAs.head | apply xAs.tail)); (case hn => first | exact oD rfl | (show _ < 4; with_reducible assumption) | (simp; try omega)); (case hl => first | with_reducible assumption | (simp only [nl, kA, kB]; first | done | rfl) | rfl)) | (refine' xAk rfl rfl rfl inferInstance rfl rfl ?hvn ?hs ?hn ?hl ?hk ?ha ?_; (case hvn => first | rfl | simp); (case hs => repeat (first | exact xAs.head | apply xAs.tail)); (case hn => first | exact oD rfl | (show _ < 4; with_reducible assumption) | (simp; try omega)); (case hl => first | with_reducible assumption | (simp only [nl, kA, kB]; first | done | rfl) | rfl)) | (refine' xBj rfl (fun w => ?hq) ?hk ?ha ?_; (case hq => go_simp; try rfl))); (case hk => intro p hp; first | exact absurd hp List.not_mem_nil | (obtain rfl := List.mem_singleton.1 hp; repeat (first | exact List.Mem.head _ | apply mT))); (case ha => simp only [kP, kQ, kA, kB]; try rfl))
      refine xBn (fun w hR => hQ _ _ ?_)
      clear hQ Q
      go_wp2_with (first | (refine' xAb hR rfl rfl rfl ?_; clear hR; intro blk w hR) | (refine' xAa hR rfl rfl inferInstance ?_; clear hR; intro blk w hR) | (refine' aAq hR rfl rfl rfl inferInstance ?_) | (refine' aBq hR rfl rfl rfl inferInstance ?_) | (refine' aCq hR rfl rfl rfl inferInstance ?_) | (refine' aDq hR rfl rfl rfl inferInstance rfl ?_; clear hR; intro w hR) | (refine' aEq hR rfl rfl rfl inferInstance rfl rfl ?_; clear hR; intro w hR) | fail)
      (refine' bodyPost_ret (results_ccr Try.results60 rfl (hR.loadAll (P := Try.prog) (ty := 24) ?hm ?hn) rfl (hR.loadAll (P := Try.prog) (ty := 24) ?hm2 ?hn2)) rfl ⟨?_, hR.below⟩; (case hm => first | with_reducible assumption | repeat (first | exact .head _ | apply mT)); (case hn => first | rfl | simp); (case hm2 => first | with_reducible assumption | repeat (first | exact .head _ | apply mT)); (case hn2 => first | rfl | simp))
      rfl
theorem refDiv_any (a b : Nat) (ha : a < B) (hb : b < B) (w : World) : Calls Try.prog 60 #[num a, num b] w fun e w' =>
    e = .returned (.tuple #[num (quo0 a b), num (rem0 a b), .int .i64 (if b = 0 then 1 else 0)]) ∧ Below w.heap.size w w' := by
  by_cases h : b = 0
  · subst h
    rw [if_pos rfl, rem0_def, xCn, if_pos rfl, Nat.div_zero]
    exact refDiv_none a ha w
  · rw [if_neg h]
    by_cases hs : a < 18446744073709551616 ∧ b < 18446744073709551616
    · exact refDiv_short a b h hs.1 hs.2 w
    · exact refDiv_long a b ha hb h hs w
set_option maxRecDepth 100000 in
set_option maxHeartbeats 4000000 in
theorem refCommon_any (a b : Nat) (ha : a < B) (hb : b < B) (w : World) : Calls Try.prog 137 #[num a, num b] w fun e w' =>
    e = .returned (num (gcdN a b)) ∧ Below w.heap.size w w' := by
  obtain ⟨n, X, Y, hX, hY, hY0, hg, hlt, hst⟩ := euclid b a ha hb
  rw [← hg, ← hX, ← hY]
  clear hg hX hY
  have hR := Rep.init w
  go_enter Try.func137, Try.ntmps137
  go_wp2_with (first | (refine' xAb hR rfl rfl rfl ?_; clear hR; intro blk w hR) | (refine' xAa hR rfl rfl inferInstance ?_; clear hR; intro blk w hR) | (refine' aAq hR rfl rfl rfl inferInstance ?_) | (refine' aBq hR rfl rfl rfl inferInstance ?_) | (refine' aCq hR rfl rfl rfl inferInstance ?_) | (refine' aDq hR rfl rfl rfl inferInstance rfl ?_; clear hR; intro w hR) | (refine' aEq hR rfl rfl rfl inferInstance rfl rfl ?_; clear hR; intro w hR) | fail)
  (first | (rename_i b2; change Nat at b2) | (rename_i b2 _; change Nat at b2) | (rename_i b2 _ _; change Nat at b2) | (rename_i b2 _ _ _; change Nat at b2) | (rename_i b2 _ _ _ _; change Nat at b2) | (rename_i b2 _ _ _ _ _; change Nat at b2) | (rename_i b2 _ _ _ _ _ _; change Nat at b2) | (rename_i b2 _ _ _ _ _ _ _; change Nat at b2) | (rename_i b2 _ _ _ _ _ _ _ _; change Nat at b2) | (rename_i b2 _ _ _ _ _ _ _ _ _; change Nat at b2) | (rename_i b2 _ _ _ _ _ _ _ _ _ _; change Nat at b2) | (rename_i b2 _ _ _ _ _ _ _ _ _ _ _; change Nat at b2) | (rename_i b2 _ _ _ _ _ _ _ _ _ _ _ _; change Nat at b2) | (rename_i b2 _ _ _ _ _ _ _ _ _ _ _ _ _; change Nat at b2) | (rename_i b2 _ _ _ _ _ _ _ _ _ _ _ _ _ _; change Nat at b2) | (rename_i b2 _ _ _ _ _ _ _ _ _ _ _ _ _ _ _; change Nat at b2) | (rename_i b2 _ _ _ _ _ _ _ _ _ _ _ _ _ _ _ _; change Nat at b2) | (rename_i b2 _ _ _ _ _ _ _ _ _ _ _ _ _ _ _ _ _; change Nat at b2) | (rename_i b2 _ _ _ _ _ _ _ _ _ _ _ _ _ _ _ _ _ _; change Nat at b2) | (rename_i b2 _ _ _ _ _ _ _ _ _ _ _ _ _ _ _ _ _ _ _; change Nat at b2))
  (first | (rename_i b1; change Nat at b1) | (rename_i b1 _; change Nat at b1) | (rename_i b1 _ _; change Nat at b1) | (rename_i b1 _ _ _; change Nat at b1) | (rename_i b1 _ _ _ _; change Nat at b1) | (rename_i b1 _ _ _ _ _; change Nat at b1) | (rename_i b1 _ _ _ _ _ _; change Nat at b1) | (rename_i b1 _ _ _ _ _ _ _; change Nat at b1) | (rename_i b1 _ _ _ _ _ _ _ _; change Nat at b1) | (rename_i b1 _ _ _ _ _ _ _ _ _; change Nat at b1) | (rename_i b1 _ _ _ _ _ _ _ _ _ _; change Nat at b1) | (rename_i b1 _ _ _ _ _ _ _ _ _ _ _; change Nat at b1) | (rename_i b1 _ _ _ _ _ _ _ _ _ _ _ _; change Nat at b1) | (rename_i b1 _ _ _ _ _ _ _ _ _ _ _ _ _; change Nat at b1) | (rename_i b1 _ _ _ _ _ _ _ _ _ _ _ _ _ _; change Nat at b1) | (rename_i b1 _ _ _ _ _ _ _ _ _ _ _ _ _ _ _; change Nat at b1) | (rename_i b1 _ _ _ _ _ _ _ _ _ _ _ _ _ _ _ _; change Nat at b1) | (rename_i b1 _ _ _ _ _ _ _ _ _ _ _ _ _ _ _ _ _; change Nat at b1) | (rename_i b1 _ _ _ _ _ _ _ _ _ _ _ _ _ _ _ _ _ _; change Nat at b1) | (rename_i b1 _ _ _ _ _ _ _ _ _ _ _ _ _ _ _ _ _ _ _; change Nat at b1))
  refine' xBv (false :: false :: false :: false :: false :: true :: true :: true :: true :: true :: true :: true :: true :: true :: true :: true :: true :: true :: true :: true :: false :: []) (fun j l => l) (fun j => [(blk, .cells [.int .u64 0, .int .u64 0, .int .u64 0, .int .u64 0].toArray 24), (b2, .cells (nl (Y j)).toArray 24), (b1, .cells (nl (X j)).toArray 24)]) n ?h0 ?hR ?hs ?he
  case hR =>
    exact hR
  case h0 =>
    exact xBg rfl rfl rfl
  case hs =>
    clear hR
    intro j tm w hj ht hR K hK
    repeat (first | (obtain ⟨x, tm', e, ht'⟩ := xAu ht; clear ht; subst e; have ht := ht'; clear ht') | (obtain ⟨tm', e, ht'⟩ := xAj ht; clear ht; subst e; have ht := ht'; clear ht'))
    obtain rfl := xAy ht
    clear ht
    obtain ⟨y0, e1, e2⟩ := hst j hj
    obtain ⟨l1, l2⟩ := hlt (j + 1) (by omega)
    have z := xBz l2 B_pos y0
    have cd := fun w => refDiv_any _ _ l1 l2 w
    rw [← e2] at cd
    rw [e1] at hK
    clear hst hlt e2 e1
    generalize X (j + 1) = U at *
    generalize Y (j + 1) = V at *
    go_wp2_with (first | (refine' xAb hR rfl rfl rfl ?_; clear hR; intro blk w hR) | (refine' xAa hR rfl rfl inferInstance ?_; clear hR; intro blk w hR) | (refine' aAq hR rfl rfl rfl inferInstance ?_) | (refine' aBq hR rfl rfl rfl inferInstance ?_) | (refine' aCq hR rfl rfl rfl inferInstance ?_) | (refine' aDq hR rfl rfl rfl inferInstance rfl ?_; clear hR; intro w hR) | (refine' aEq hR rfl rfl rfl inferInstance rfl rfl ?_; clear hR; intro w hR) | (go_at_call 60; refine (cd _).mono ?_; rintro e w ⟨rfl, hb⟩; replace hR := hR.call hb; clear hb))
    exact hK.out _ _ (xBg rfl rfl rfl) hR.tail.tail
  case he =>
    clear hR hst hlt
    intro tm w ht hR K
    repeat (first | (obtain ⟨x, tm', e, ht'⟩ := xAu ht; clear ht; subst e; have ht := ht'; clear ht') | (obtain ⟨tm', e, ht'⟩ := xAj ht; clear ht; subst e; have ht := ht'; clear ht'))
    obtain rfl := xAy ht
    clear ht
    rw [hY0] at hR
    have z := eqN_self 0
    go_wp2_with (first | (refine' xAb hR rfl rfl rfl ?_; clear hR; intro blk w hR) | (refine' xAa hR rfl rfl inferInstance ?_; clear hR; intro blk w hR) | (refine' aAq hR rfl rfl rfl inferInstance ?_) | (refine' aBq hR rfl rfl rfl inferInstance ?_) | (refine' aCq hR rfl rfl rfl inferInstance ?_) | (refine' aDq hR rfl rfl rfl inferInstance rfl ?_; clear hR; intro w hR) | (refine' aEq hR rfl rfl rfl inferInstance rfl rfl ?_; clear hR; intro w hR) | fail)
    try rw [Exit.noGoto_ret]
    (refine' bodyPost_ret (xBr Try.results137 rfl (hR.loadAll (P := Try.prog) (ty := 24) ?hm ?hn)) rfl ⟨?_, hR.below⟩; (case hm => first | with_reducible assumption | repeat (first | exact .head _ | apply mT)); (case hn => first | rfl | simp))
    rfl
end Go.Proofs.Ytdagdfcbnhfdkaa
