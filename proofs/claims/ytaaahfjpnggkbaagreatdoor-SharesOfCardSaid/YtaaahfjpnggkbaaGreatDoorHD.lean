import Derived.Test.YtaaahfjpnggkbaaGreatDoorHA2
import Derived.Test.YtaaahfjpnggkbaaGreatDoorHDiv64
set_option linter.unusedSimpArgs false
set_option linter.unusedVariables false
set_option maxRecDepth 100000
set_option maxHeartbeats 20000000
namespace Go.Proofs.YtaaahfjpnggkbaaGreatDoor
open Go.RowKit
section
@[go_sem] theorem equalIn_zero (a : Nat) (w : World) : (Op.equalIn 10000 24 (.agg (nl a).toArray) (.agg #[.int .u64 0, .int .u64 0, .int .u64 0, .int .u64 0])).run Tryz.prog w = .ok (eqN a 0) w := by
 rw [xBe]; exact equalIn_num a 0 w
noncomputable def rem0 : Nat → Nat → Nat := opq fun a b => if b = 0 then 0 else a % b
theorem rem0_def (a b : Nat) : rem0 a b = if b = 0 then 0 else a % b := by unfold rem0; rw [xBs]
theorem xEs {a b : Nat} (h : b ≠ 0) : rem0 a b = a % b := by rw [rem0_def, if_neg h]
noncomputable def quo0 : Nat → Nat → Nat := opq fun a b => a / b
theorem xEw (a b : Nat) : quo0 a b = a / b := by unfold quo0; rw [xBs]
structure Wo (hi lo b q r : Nat) : Prop where
 q : (hi * 18446744073709551616 + lo) / b = q
 r : (hi * 18446744073709551616 + lo) % b = r
theorem Wo.call {hi lo b q r : Nat} (h : Wo hi lo b q r) (h1 : hi < b) (h2 : b < 18446744073709551616) (h3 : lo < 18446744073709551616) (w : World) :
  Calls Tryz.prog 229 #[.int .u64 (hi : Int), .int .u64 (lo : Int), .int .u64 (b : Int)] w fun e w' =>
  e = .returned (.tuple #[.int .u64 (q : Int), .int .u64 (r : Int)]) ∧ Below w.heap.size w w' := by
 have := xGo hi lo b h1 h2 h3 w
 rwa [h.q, h.r] at this
theorem Wo.eq {hi lo b q r : Nat} (h : Wo hi lo b q r) : hi * 18446744073709551616 + lo = b * q + r := by
 rw [← h.q, ← h.r]; exact (Nat.div_add_mod _ _).symm
theorem Wo.lt {hi lo b q r : Nat} (h : Wo hi lo b q r) (hb : 0 < b) : r < b := by
 rw [← h.r]; exact Nat.mod_lt _ hb
theorem Wo.word {hi lo b q r : Nat} (h : Wo hi lo b q r) (h1 : hi < b) (h3 : lo < 18446744073709551616) : q < 18446744073709551616 := by
 rw [← h.q, Nat.div_lt_iff_lt_mul (by omega)]
 have : (hi + 1) * 18446744073709551616 ≤ b * 18446744073709551616 := Nat.mul_le_mul_right _ h1
 rw [Nat.mul_comm 18446744073709551616 b]
 omega
theorem horner (x0 x1 x2 x3 y0 y1 y2 y3 r0 r1 r2 r3 W : Nat) (e3 : y3 = x3 + r3) (e2 : r3 * W + y2 = x2 + r2) (e1 : r2 * W + y1 = x1 + r1) (e0 : r1 * W + y0 = x0 + r0) :
  x0 + W * (x1 + W * (x2 + W * x3)) + r0 = y0 + W * (y1 + W * (y2 + W * y3)) := by grind
theorem ofW_mul (q0 q1 q2 q3 b W : Nat) : (q0 + W * (q1 + W * (q2 + W * q3))) * b = b * q0 + W * (b * q1 + W * (b * q2 + W * (b * q3))) := by grind
theorem div_words (a b : Nat) (ha : a < B) (h0 : 0 < b) (hb : b < 18446744073709551616) : ∃ q3 r3 q2 r2 q1 r1 q0 r0 : Nat,
  Wo 0 (w64 a 3) b q3 r3 ∧ Wo r3 (w64 a 2) b q2 r2 ∧ Wo r2 (w64 a 1) b q1 r1 ∧ Wo r1 (w64 a 0) b q0 r0 ∧ r3 < b ∧ r2 < b ∧ r1 < b ∧
  [Value.int .u64 (q0 : Int), .int .u64 (q1 : Int), .int .u64 (q2 : Int), .int .u64 (q3 : Int)] = nl (quo0 a b) ∧ [Value.int .u64 (r0 : Int), .int .u64 0, .int .u64 0, .int .u64 0] = nl (rem0 a b) := by
 obtain ⟨q3, r3, k3⟩ : ∃ q r, Wo 0 (w64 a 3) b q r := ⟨_, _, rfl, rfl⟩
 obtain ⟨q2, r2, k2⟩ : ∃ q r, Wo r3 (w64 a 2) b q r := ⟨_, _, rfl, rfl⟩
 obtain ⟨q1, r1, k1⟩ : ∃ q r, Wo r2 (w64 a 1) b q r := ⟨_, _, rfl, rfl⟩
 obtain ⟨q0, r0, k0⟩ : ∃ q r, Wo r1 (w64 a 0) b q r := ⟨_, _, rfl, rfl⟩
 have l3 := k3.lt h0
 have l2 := k2.lt h0
 have l1 := k1.lt h0
 have l0 := k0.lt h0
 have e : ofW q0 q1 q2 q3 * b + r0 = a := by
  have h := xEz a
  rw [Nat.mod_eq_of_lt ha] at h
  have e3 := k3.eq; have e2 := k2.eq; have e1 := k1.eq; have e0 := k0.eq
  have hw := horner (b * q0) (b * q1) (b * q2) (b * q3) (w64 a 0) (w64 a 1) (w64 a 2) (w64 a 3) r0 r1 r2 r3 _ (by rw [Nat.zero_mul, Nat.zero_add] at e3; exact e3) e2 e1 e0
  rw [← h]
  refine Eq.trans ?_ hw
  exact congrArg (· + r0) (ofW_mul _ _ _ _ _ _)
 have eq : a / b = ofW q0 q1 q2 q3 := by rw [← e, Nat.mul_comm, Nat.mul_add_div h0, Nat.div_eq_of_lt l0]; rfl
 have er : a % b = r0 := by rw [← e, Nat.mul_comm, Nat.mul_add_mod, Nat.mod_eq_of_lt l0]
 refine ⟨q3, r3, q2, r2, q1, r1, q0, r0, k3, k2, k1, k0, l3, l2, l1, ?_, ?_⟩
 ·rw [xEw, eq, nl_ofW _ _ _ _ (k0.word l1 (xDb _ _)) (k1.word l2 (xDb _ _)) (k2.word l3 (xDb _ _)) (k3.word h0 (xDb _ _))]
 ·rw [xEs (by omega), er, nl_small r0 (by omega)]
attribute [local irreducible] Calls
theorem div_short (a b : Nat) (ha : a < B) (h0 : b ≠ 0) (hs : b < 18446744073709551616) (w : World) : Calls Tryz.prog 210 #[num a, num b] w fun e w' =>
  e = .returned (.tuple #[num (quo0 a b), num (rem0 a b), .int .i64 0]) ∧ Below w.heap.size w w' := by
 have hb : b < B := lt_B hs
 obtain ⟨q3, r3, q2, r2, q1, r1, q0, r0, k3, k2, k1, k0, l3, l2, l1, hq, hr⟩ := div_words a b ha (by omega) hs
 have ew : wd b 0 = (b : Int) := by
  rw [xFm]; unfold w64; omega
 have d3 := k3.call (by omega) hs (xDb _ _)
 have d2 := k2.call l3 hs (xDb _ _)
 have d1 := k1.call l2 hs (xDb _ _)
 have d0 := k0.call l1 hs (xDb _ _)
 rw [← xFm, ← ew] at d3 d2 d1 d0
 have nq : num (quo0 a b) = .agg (List.toArray _) := congrArg (fun l => Value.agg l.toArray) hq.symm
 have nr : num (rem0 a b) = .agg (List.toArray _) := congrArg (fun l => Value.agg l.toArray) hr.symm
 rw [nq, nr]
 clear nq nr hq hr k3 k2 k1 k0
 have z := xDq hb xEy h0
 have hR := Rep.init w
 go_enter Tryz.func210, Tryz.ntmps210
 go_wp2_with (first | (refine' aAq hR ?_; clear hR; intro blk w hR) | (refine' aBq hR ?_; clear hR; intro blk w hR) | (refine' aEq hR ?_) | (go_at_call 228; refine (xHr b hb _).mono ?_; rintro e w ⟨rfl, hb⟩; replace hR := hR.call hb; clear hb))
 refine wp_loop_rounds 5 ?_
 iterate 4
  rw [rounds_succ]
  go_wp2_with (fail)
  refine xAd hR [0, 0, 0, 0, 0, 0, 0, 0, 0, 0, 0, 1, 0, 2, 2, 2] [] xBd (by kernel_rfl) rfl rfl (fun K hK => ?_)
  clear hR
  repeat ((first | (refine xAp ?_) | (refine' xAj (by decide) rfl (.inl rfl) rfl ?ha ?_) | (refine' aCq ?ha ?_) | ((first | refine' xAg (by decide) rfl rfl rfl rfl (fun w => ?hq) ?ha ?_ | refine' xAt (by decide) rfl rfl rfl (fun w => ?hq) ?ha ?_); (case hq => go_simp; try rfl)) | (refine' xAk rfl rfl rfl (xAi Tryz.func229 (by kernel_rfl) (by kernel_rfl) _) (fun w => d3 w) ?ha ?_) | (refine' xAk rfl rfl rfl (xAi Tryz.func229 (by kernel_rfl) (by kernel_rfl) _) (fun w => d2 w) ?ha ?_) | (refine' xAk rfl rfl rfl (xAi Tryz.func229 (by kernel_rfl) (by kernel_rfl) _) (fun w => d1 w) ?ha ?_) | (refine' xAk rfl rfl rfl (xAi Tryz.func229 (by kernel_rfl) (by kernel_rfl) _) (fun w => d0 w) ?ha ?_)); try (case ha => simp only [kP, kQ, kA, kB]; try rfl))
  refine xAo (hK _ _ ?_)
  clear hK K
  refine xAr (fun Q hQ => ?_)
  try simp only [List.nil_append, List.cons_append]
  repeat ((first | (refine' aDq ?hk ?ha ?_) | (refine' xHe rfl (fun w => ?hq) ?hk ?ha ?_; (case hq => go_simp; try rfl))); (case hk => intro p hp; first | exact absurd hp List.not_mem_nil | (obtain rfl := List.mem_singleton.1 hp; repeat (first | exact List.Mem.head _ | apply mT))); (case ha => simp only [kP, kQ, kA, kB]; try rfl))
  refine xAs (fun w hR => hQ _ _ ?_)
  clear hQ Q
  go_wp2_with (fail)
 rw [rounds_succ]
 go_wp2_with (fail)
 refine xAd hR [0, 1, 2, 2, 2] [0] xBd (by kernel_rfl) rfl rfl (fun K hK => ?_)
 clear hR
 repeat ((first | (refine xAp ?_) | (refine' aIq ?ha ?_) | (refine' aJq ?ha ?_)); try (case ha => simp only [kP, kQ, kA, kB]; try rfl))
 refine xAo (hK _ _ ?_)
 clear hK K
 refine xAr (fun Q hQ => ?_)
 try simp only [List.nil_append, List.cons_append]
 repeat ((first | refine' xBf rfl (.inr rfl) rfl ?hk ?ha ?_ | (refine' aKq ?hk ?ha ?_)); (case hk => intro p hp; first | exact absurd hp List.not_mem_nil | (obtain rfl := List.mem_singleton.1 hp; repeat (first | exact List.Mem.head _ | apply mT))); (case ha => simp only [kP, kQ, kA, kB]; try rfl))
 refine xAs (fun w hR => hQ _ _ ?_)
 clear hQ Q
 go_wp2_with (fail)
 (refine' bodyPost_ret (xDw Tryz.results210 rfl (hR.loadAll (P := Tryz.prog) (ty := 24) ?hm ?hn) rfl (hR.loadAll (P := Tryz.prog) (ty := 24) ?hm2 ?hn2)) rfl ⟨?_, hR.below⟩; (case hm => first | with_reducible assumption | repeat (first | exact .head _ | apply mT)); (case hn => first | rfl | simp); (case hm2 => first | with_reducible assumption | repeat (first | exact .head _ | apply mT)); (case hn2 => first | rfl | simp))
 rfl
end
section
noncomputable def rN : Nat → Nat → Nat → Nat := opq fun a b j => a / 2 ^ j % b
theorem rN_def (a b j : Nat) : rN a b j = a / 2 ^ j % b := by unfold rN; rw [xBs]
noncomputable def qN : Nat → Nat → Nat → Nat := opq fun a b j => a / 2 ^ j / b * 2 ^ j
theorem qN_def (a b j : Nat) : qN a b j = a / 2 ^ j / b * 2 ^ j := by unfold qN; rw [xBs]
theorem rN_top {a b n : Nat} (h : a < 2 ^ n) : rN a b n = 0 := by rw [rN_def, Nat.div_eq_of_lt h, Nat.zero_mod]
theorem qN_top {a b n : Nat} (h : a < 2 ^ n) : qN a b n = 0 := by rw [qN_def, Nat.div_eq_of_lt h, Nat.zero_div, Nat.zero_mul]
theorem rN_zero {a b : Nat} (h : b ≠ 0) : rN a b 0 = rem0 a b := by rw [rN_def, xEs h, Nat.pow_zero, Nat.div_one]
theorem qN_zero {a b : Nat} : qN a b 0 = quo0 a b := by rw [qN_def, xEw, Nat.pow_zero, Nat.div_one, Nat.mul_one]
theorem div_round (a b j : Nat) (hb : b ≠ 0) : ∃ bit S : Nat, bit < 2 ∧ S < 2 ∧ a / 2 ^ j % 2 = bit ∧ rN a b (j + 1) < b ∧ (2 * rN a b (j + 1) + bit) % b = rN a b j ∧ (2 * rN a b (j + 1) + bit) / b = S ∧ qN a b (j + 1) % 2 ^ (j + 1) = 0 ∧ qN a b (j + 1) + S * 2 ^ j = qN a b j := by
 have hA : a / 2 ^ j = 2 * (a / 2 ^ (j + 1)) + a / 2 ^ j % 2 := by
  rw [Nat.pow_succ, ← Nat.div_div_eq_div_mul]; omega
 rw [rN_def, rN_def, qN_def, qN_def]
 have hp : 2 ^ (j + 1) = 2 * 2 ^ j := by rw [Nat.pow_succ, Nat.mul_comm]
 generalize a / 2 ^ (j + 1) = A at *
 have hbit : a / 2 ^ j % 2 < 2 := Nat.mod_lt _ (by decide)
 generalize a / 2 ^ j % 2 = bit at *
 have hr : A % b < b := Nat.mod_lt _ (by omega)
 have e : a / 2 ^ j = b * (2 * (A / b)) + (2 * (A % b) + bit) := by
  rw [hA, Nat.mul_left_comm, ← Nat.add_assoc, ← Nat.mul_add, Nat.div_add_mod]
 have hS : (2 * (A % b) + bit) / b < 2 := by rw [Nat.div_lt_iff_lt_mul (by omega)]; omega
 refine ⟨bit, _, hbit, hS, rfl, hr, ?_, rfl, Nat.mul_mod_left _ _, ?_⟩
 ·rw [e, Nat.mul_add_mod]
 ·rw [e, Nat.mul_add_div (by omega), hp, Nat.add_mul]
  congr 1
  rw [← Nat.mul_assoc, Nat.mul_comm (A / b) 2]
theorem wd_setbit (Q S j i : Nat) (hS : S < 2) (hQ : Q % 2 ^ (j + 1) = 0) (hj : j / 64 ≠ i) : wd (Q + S * 2 ^ j) i = wd Q i := by
 rw [xDe, xDe]
 obtain ⟨t, rfl⟩ := Nat.dvd_of_mod_eq_zero hQ
 have pw : 18446744073709551616 ^ i = 2 ^ (64 * i) := by rw [Nat.pow_mul]
 rw [pw]
 rcases Nat.lt_or_gt_of_ne hj with h | h
 ·obtain ⟨k, hk⟩ : ∃ k, 64 * i = (j + 1) + k := ⟨64 * i - (j + 1), by omega⟩
  have e : (2 ^ (j + 1) * t + S * 2 ^ j) / 2 ^ (j + 1) = t := by
   rw [Nat.mul_add_div (Nat.two_pow_pos _), Nat.div_eq_of_lt, Nat.add_zero]
   rw [Nat.pow_succ, Nat.mul_comm]
   exact Nat.mul_lt_mul_of_pos_left hS (Nat.two_pow_pos _)
  rw [hk, show 2 ^ (j + 1 + k) = 2 ^ (j + 1) * 2 ^ k from Nat.pow_add _ _ _, ← Nat.div_div_eq_div_mul, ← Nat.div_div_eq_div_mul, e, Nat.mul_div_cancel_left _ (Nat.two_pow_pos _)]
 ·obtain ⟨k, hk⟩ : ∃ k, j = 64 * i + 64 + k := ⟨j - 64 * i - 64, by omega⟩
  have e : 2 ^ (j + 1) * t + S * 2 ^ j = 2 ^ (64 * i) * (2 ^ 64 * (2 ^ k * (2 * t + S))) := by
   have : 2 ^ j = 2 ^ (64 * i) * (2 ^ 64 * 2 ^ k) := by rw [hk, Nat.pow_add, Nat.pow_add, Nat.mul_assoc]
   rw [Nat.pow_succ, this]; grind
  have e2 : 2 ^ (j + 1) * t = 2 ^ (64 * i) * (2 ^ 64 * (2 ^ k * (2 * t))) := by
   have : 2 ^ j = 2 ^ (64 * i) * (2 ^ 64 * 2 ^ k) := by rw [hk, Nat.pow_add, Nat.pow_add, Nat.mul_assoc]
   rw [Nat.pow_succ, this]; grind
  rw [e, e2, Nat.mul_div_cancel_left _ (Nat.two_pow_pos _), Nat.mul_div_cancel_left _ (Nat.two_pow_pos _), show (18446744073709551616 : Nat) = 2 ^ 64 from rfl, Nat.mul_mod_right, Nat.mul_mod_right]
theorem wd_setbit_at (Q S j i : Nat) (hS : S < 2) (hQ : Q % 2 ^ (j + 1) = 0) (hj : j / 64 = i) : bits BinOp.or IntKind.u64 (wd Q i) (IntKind.u64.wrap ((S : Int) * 2 ^ (j % 64))) = wd (Q + S * 2 ^ j) i := by
 rw [xDe, xDe]
 obtain ⟨t, rfl⟩ := Nat.dvd_of_mod_eq_zero hQ
 have pw : 18446744073709551616 ^ i = 2 ^ (64 * i) := by rw [Nat.pow_mul]
 have e0 : j = 64 * i + j % 64 := by omega
 have l : j % 64 < 64 := Nat.mod_lt _ (by decide)
 generalize j % 64 = e at *
 subst e0
 have hp : 2 ^ (64 * i + e + 1) = 2 ^ (64 * i) * 2 ^ (e + 1) := by rw [Nat.add_assoc, Nat.pow_add]
 have hp2 : 2 ^ (64 * i + e) = 2 ^ (64 * i) * 2 ^ e := by rw [Nat.pow_add]
 have es : S * 2 ^ e < 2 ^ (e + 1) := by
  rw [Nat.pow_succ, Nat.mul_comm]
  exact Nat.mul_lt_mul_of_pos_left hS (Nat.two_pow_pos _)
 have el : 2 ^ (e + 1) ∣ 2 ^ 64 := Nat.pow_dvd_pow 2 (by omega)
 have ew : S * 2 ^ e < 2 ^ 64 := Nat.lt_of_lt_of_le es (Nat.le_of_dvd (by decide) el)
 have c : IntKind.u64.wrap ((S : Int) * 2 ^ e) = ((S * 2 ^ e : Nat) : Int) := by
  rw [IntKind.wrap_u64]
  have : ((S : Int) * 2 ^ e) = ((S * 2 ^ e : Nat) : Int) := by simp
  rw [this]
  omega
 have d1 : 2 ^ (64 * i) * 2 ^ (e + 1) * t / 2 ^ (64 * i) = 2 ^ (e + 1) * t := by rw [Nat.mul_assoc, Nat.mul_div_cancel_left _ (Nat.two_pow_pos _)]
 have d2 : (2 ^ (64 * i) * 2 ^ (e + 1) * t + S * (2 ^ (64 * i) * 2 ^ e)) / 2 ^ (64 * i) = 2 ^ (e + 1) * t + S * 2 ^ e := by
  rw [show 2 ^ (64 * i) * 2 ^ (e + 1) * t + S * (2 ^ (64 * i) * 2 ^ e) = 2 ^ (64 * i) * (2 ^ (e + 1) * t + S * 2 ^ e) by grind, Nat.mul_div_cancel_left _ (Nat.two_pow_pos _)]
 rw [pw, hp, hp2, c, d1, d2]
 obtain ⟨g, hg⟩ := el
 have m1 : 2 ^ (e + 1) * t % 18446744073709551616 = 2 ^ (e + 1) * (t % g) := by
  rw [show (18446744073709551616 : Nat) = 2 ^ 64 from rfl, hg, Nat.mul_mod_mul_left]
 have m2 : (2 ^ (e + 1) * t + S * 2 ^ e) % 18446744073709551616 = 2 ^ (e + 1) * (t % g) + S * 2 ^ e := by
  rw [show (18446744073709551616 : Nat) = 2 ^ 64 from rfl, hg, Nat.mod_mul, Nat.mul_add_div (Nat.two_pow_pos _), Nat.div_eq_of_lt es, Nat.mul_add_mod, Nat.mod_eq_of_lt es, Nat.add_zero]
  exact Nat.add_comm _ _
 rw [m1, m2, bits_or_u64_nat _ _ (by rw [← m1]; exact Nat.mod_lt _ (by decide)) ew, Nat.two_pow_add_eq_or_of_lt es]
theorem nl_setbit (Q S j : Nat) (hj : j < 256) (hS : S < 2) (hQ : Q % 2 ^ (j + 1) = 0) :
  (nl Q).set (j / 64) (.int .u64 (bits BinOp.or IntKind.u64 (wd Q (j / 64)) (IntKind.u64.wrap ((S : Int) * 2 ^ (j % 64))))) = nl (Q + S * 2 ^ j) := by
 rw [wd_setbit_at Q S j _ hS hQ rfl]
 have k : ∀ i, j / 64 ≠ i → wd (Q + S * 2 ^ j) i = wd Q i := fun i => wd_setbit Q S j i hS hQ
 have : j / 64 = 0 ∨ j / 64 = 1 ∨ j / 64 = 2 ∨ j / 64 = 3 := by omega
 rcases this with h | h | h | h <;> rw [h] at k ⊢ <;> unfold nl <;> simp only [kA, kB]
 ·rw [k 1 (by decide), k 2 (by decide), k 3 (by decide)]
 ·rw [k 0 (by decide), k 2 (by decide), k 3 (by decide)]
 ·rw [k 0 (by decide), k 1 (by decide), k 3 (by decide)]
 ·rw [k 0 (by decide), k 1 (by decide), k 2 (by decide)]
theorem div_long (a b : Nat) (ha : a < B) (hb : b < B) (hs : ¬ b < 18446744073709551616) (w : World) : Calls Tryz.prog 210 #[num a, num b] w fun e w' =>
  e = .returned (.tuple #[num (quo0 a b), num (rem0 a b), .int .i64 0]) ∧ Below w.heap.size w w' := by
 have h0 : b ≠ 0 := by omega
 have z := xDq hb xEy h0
 have cb := xGb a ha
 have hn1 : blen a ≤ 256 := (xBg _ _).mpr (by rw [B_eq] at ha; exact ha)
 have hn2 := xFa a
 generalize blen a = n at *
 have hR := Rep.init w
 go_enter Tryz.func210, Tryz.ntmps210
 go_wp2_with (first | (refine' aAq hR ?_; clear hR; intro blk w hR) | (refine' aBq hR ?_; clear hR; intro blk w hR) | (refine' aEq hR ?_) | (go_at_call 228; refine (xHr b hb _).mono ?_; rintro e w ⟨rfl, hb⟩; replace hR := hR.call hb; clear hb) | (go_at_call 169; refine (cb _).mono ?_; rintro e w ⟨rfl, hb⟩; replace hR := hR.call hb; clear hb))
 rename_i b1 _ b2 _ b3 _ _ _ K0 k0
 refine' xBm (false :: false :: false :: false :: false :: false :: false :: false :: false :: true :: true :: true :: false :: false :: false :: false :: false :: false :: false :: false :: false :: false :: false :: false :: false :: false :: false :: false :: false :: false :: false :: false :: false :: false :: false :: false :: false :: false :: false :: false :: false :: false :: false :: false :: false :: true :: true :: true :: true :: true :: true :: true :: true :: true :: true :: true :: true :: true :: true :: true :: true :: true :: true :: true :: true :: true :: true :: true :: true :: true :: true :: false :: false :: []) (fun j l => l.set 44 (.int .i64 ((n : Int) - (j : Int)))) (fun j => [(blk, .cells (nl (rN a b j)).toArray 24), (b3, .cells (nl (qN a b j)).toArray 24), (b2, .cells (nl b).toArray 24), (b1, .cells (nl a).toArray 24)]) n ?h0 ?hR ?hs ?he
 case hR =>
  show Rep _ _ [(_, .cells (nl (rN a b n)).toArray _), (_, .cells (nl (qN a b n)).toArray _), _, _] _
  rw [rN_top hn2, qN_top hn2]
  rw [← xDf]
  exact hR
 case h0 =>
  simp only [Int.sub_self]
  exact xAf rfl rfl rfl
 case hs =>
  clear hR k0
  intro j tm w hj ht hR K hK
  repeat (first | (obtain ⟨x, tm', e, ht'⟩ := xAc ht; clear ht; subst e; have ht := ht'; clear ht') | (obtain ⟨tm', e, ht'⟩ := xAa ht; clear ht; subst e; have ht := ht'; clear ht'))
  obtain rfl := xAe ht
  clear ht
  obtain ⟨bit, S, hbit, hS, ebit, hRb, er, eS, hQ, eq⟩ := div_round a b j h0
  have cbit := fun w => bit_any a (j : Int) ha w
  rw [xDj a j (by omega), ebit] at cbit
  have cnext := fun w => next_any _ bit b hRb hb hbit w
  rw [er, eS] at cnext
  have hset := nl_setbit _ S j (by omega) hS hQ
  rw [eq] at hset
  clear ebit hRb er eS hQ eq cb hbit
  generalize rN a b (j + 1) = R at *
  generalize qN a b (j + 1) = Q at *
  generalize hk : (n : Int) - ((j + 1 : Nat) : Int) = k
  have k0 : 0 ≤ k := by omega
  have k1 : k < n := by omega
  have ki : (n : Int) - 1 - k = j := by omega
  have kn : k + 1 = (n : Int) - j := by omega
  clear hk
  have hv := nl_at Q (j / 64) (by omega)
  have l0 := xDz Q (j / 64)
  have l1 := xEk Q (j / 64)
  obtain ⟨x, hx⟩ : ∃ x, j / 64 = x := ⟨_, rfl⟩
  obtain ⟨y, hy⟩ : ∃ y, j % 64 = y := ⟨_, rfl⟩
  rw [hx, hy] at hset
  rw [hx] at hv l0 l1
  have e1 : (j : Int) / 64 = (x : Int) := by omega
  have e2 : IntKind.i64.wrap (x : Int) = (x : Int) := by rw [IntKind.wrap_i64]; omega
  have e3 : (j : Int).tmod 64 = (y : Int) := by rw [Int.tmod_eq_emod_of_nonneg (by omega)]; omega
  have e4 : (j : Int) % 64 = (y : Int) := by omega
  have e5 : IntKind.i64.wrap (y : Int) = (y : Int) := by rw [IntKind.wrap_i64]; omega
  have e6 : (x : Int) < 4 := by omega
  have e7 : (y : Int) < 64 := by omega
  have e8 : 0 ≤ (x : Int) := by omega
  have e9 : 0 ≤ (y : Int) := by omega
  have e10 : x < 4 := by omega
  clear hx hy
  go_wp2_with (fail)
  refine xAd hR [0, 0, 0, 0, 0, 0, 0, 0, 1, 2, 2] [] xBd (by kernel_rfl) rfl rfl (fun K hK => ?_)
  clear hR
  repeat ((first | (refine xAp ?_) | (refine' xAj (by decide) rfl (.inl rfl) rfl ?ha ?_) | (refine' aIq ?ha ?_) | ((refine' xAt (by decide) rfl rfl rfl (fun w => ?hq) ?ha ?_); (case hq => go_simp; try rfl)) | (refine' xAk rfl rfl rfl (xAi Tryz.func231 (by kernel_rfl) (by kernel_rfl) _) (fun w => cbit w) ?ha ?_) | (refine' xAk rfl rfl rfl (xAi Tryz.func230 (by kernel_rfl) (by kernel_rfl) _) (fun w => cnext w) ?ha ?_)); try (case ha => simp only [kP, kQ, kA, kB]; try rfl))
  refine xAo (hK _ _ ?_)
  clear hK K
  refine xAr (fun Q hQ => ?_)
  try simp only [List.nil_append, List.cons_append]
  repeat ((first | refine' xBf rfl (.inr rfl) rfl ?hk ?ha ?_ | (refine' aKq ?hk ?ha ?_)); (case hk => intro p hp; first | exact absurd hp List.not_mem_nil | (obtain rfl := List.mem_singleton.1 hp; repeat (first | exact List.Mem.head _ | apply mT))); (case ha => simp only [kP, kQ, kA, kB]; try rfl))
  refine xAs (fun w hR => hQ _ _ ?_)
  clear hQ Q
  go_wp2_with (fail)
  refine xAd hR [0, 0, 0, 0, 0, 0, 0, 0, 0, 0, 2] [] xBd (by kernel_rfl) rfl rfl (fun K hK => ?_)
  clear hR
  repeat ((first | (refine xAp ?_) | (refine' xAj (by decide) rfl (.inl rfl) rfl ?ha ?_) | (refine' aCq ?ha ?_) | ((first | refine' xAg (by decide) rfl rfl rfl rfl (fun w => ?hq) ?ha ?_ | refine' xAm (by decide) rfl rfl rfl rfl (fun w => ?hq) ?ha ?_); (case hq => go_simp; try rfl))); try (case ha => simp only [kP, kQ, kA, kB]; try rfl))
  refine xAo (hK _ _ ?_)
  clear hK K
  refine xAr (fun Q hQ => ?_)
  try simp only [List.nil_append, List.cons_append]
  repeat ((refine' aDq ?hk ?ha ?_); (case hk => intro p hp; first | exact absurd hp List.not_mem_nil | (obtain rfl := List.mem_singleton.1 hp; repeat (first | exact List.Mem.head _ | apply mT))); (case ha => simp only [kP, kQ, kA, kB]; try rfl))
  refine xAs (fun w hR => hQ _ _ ?_)
  clear hQ Q
  go_wp2_with (fail)
  exact hK.out _ _ (xAf rfl rfl rfl) hR
 case he =>
  clear hR
  intro tm w ht hR K
  simp only [Int.natCast_zero, Int.sub_zero] at ht
  repeat (first | (obtain ⟨x, tm', e, ht'⟩ := xAc ht; clear ht; subst e; have ht := ht'; clear ht') | (obtain ⟨tm', e, ht'⟩ := xAa ht; clear ht; subst e; have ht := ht'; clear ht'))
  obtain rfl := xAe ht
  clear ht
  rw [rN_zero h0, qN_zero] at hR
  go_wp2_with (fail)
  refine xAd hR [0, 1, 2, 2, 2] [0] xBd (by kernel_rfl) rfl rfl (fun K hK => ?_)
  clear hR
  repeat ((first | (refine xAp ?_) | (refine' aIq ?ha ?_) | (refine' aJq ?ha ?_)); try (case ha => simp only [kP, kQ, kA, kB]; try rfl))
  refine xAo (hK _ _ ?_)
  clear hK K
  refine xAr (fun Q hQ => ?_)
  try simp only [List.nil_append, List.cons_append]
  repeat ((first | refine' xBf rfl (.inr rfl) rfl ?hk ?ha ?_ | (refine' aKq ?hk ?ha ?_)); (case hk => intro p hp; first | exact absurd hp List.not_mem_nil | (obtain rfl := List.mem_singleton.1 hp; repeat (first | exact List.Mem.head _ | apply mT))); (case ha => simp only [kP, kQ, kA, kB]; try rfl))
  refine xAs (fun w hR => hQ _ _ ?_)
  clear hQ Q
  go_wp2_with (fail)
  (refine' bodyPost_ret (xDw Tryz.results210 rfl (hR.loadAll (P := Tryz.prog) (ty := 24) ?hm ?hn) rfl (hR.loadAll (P := Tryz.prog) (ty := 24) ?hm2 ?hn2)) rfl ⟨?_, hR.below⟩; (case hm => first | with_reducible assumption | repeat (first | exact .head _ | apply mT)); (case hn => first | rfl | simp); (case hm2 => first | with_reducible assumption | repeat (first | exact .head _ | apply mT)); (case hn2 => first | rfl | simp))
  rfl
theorem div_none (a : Nat) (ha : a < B) (w : World) : Calls Tryz.prog 210 #[num a, num 0] w fun e w' =>
  e = .returned (.tuple #[num 0, num 0, .int .i64 1]) ∧ Below w.heap.size w w' := by
 have z := xDm 0
 have hR := Rep.init w
 go_enter Tryz.func210, Tryz.ntmps210
 go_wp2_with (first | (refine' aAq hR ?_; clear hR; intro blk w hR) | (refine' aBq hR ?_; clear hR; intro blk w hR) | (refine' aEq hR ?_))
 refine xAd hR [0, 1, 2, 2, 2] [0] xBd (by kernel_rfl) rfl rfl (fun K hK => ?_)
 clear hR
 repeat ((first | (refine xAp ?_) | (refine' aIq ?ha ?_) | (refine' aJq ?ha ?_)); try (case ha => simp only [kP, kQ, kA, kB]; try rfl))
 refine xAo (hK _ _ ?_)
 clear hK K
 refine xAr (fun Q hQ => ?_)
 try simp only [List.nil_append, List.cons_append]
 repeat ((first | refine' xBf rfl (.inr rfl) rfl ?hk ?ha ?_ | (refine' aKq ?hk ?ha ?_)); (case hk => intro p hp; first | exact absurd hp List.not_mem_nil | (obtain rfl := List.mem_singleton.1 hp; repeat (first | exact List.Mem.head _ | apply mT))); (case ha => simp only [kP, kQ, kA, kB]; try rfl))
 refine xAs (fun w hR => hQ _ _ ?_)
 clear hQ Q
 go_wp2_with (fail)
 (refine' bodyPost_ret (xDw Tryz.results210 rfl (hR.loadAll (P := Tryz.prog) (ty := 24) ?hm ?hn) rfl (hR.loadAll (P := Tryz.prog) (ty := 24) ?hm2 ?hn2)) rfl ⟨?_, hR.below⟩; (case hm => first | with_reducible assumption | repeat (first | exact .head _ | apply mT)); (case hn => first | rfl | simp); (case hm2 => first | with_reducible assumption | repeat (first | exact .head _ | apply mT)); (case hn2 => first | rfl | simp))
 rw [xBe]
 rfl
theorem div_any (a b : Nat) (ha : a < B) (hb : b < B) (w : World) : Calls Tryz.prog 210 #[num a, num b] w fun e w' =>
  e = .returned (.tuple #[num (quo0 a b), num (rem0 a b), .int .i64 (if b = 0 then 1 else 0)]) ∧ Below w.heap.size w w' := by
 by_cases h : b = 0
 ·subst h
  rw [if_pos rfl, rem0_def, xEw, if_pos rfl, Nat.div_zero]
  exact div_none a ha w
 ·rw [if_neg h]
  by_cases hs : b < 18446744073709551616
  ·exact div_short a b ha h hs w
  ·exact div_long a b ha hb hs w
end
section
theorem Rep.tail {B0 : Nat} {w0 : World} {p : Nat × Obj} {L : List (Nat × Obj)} {w : World} (h : Rep B0 w0 (p :: L) w) : Rep B0 w0 L w :=
 ⟨h.below, h.le, fun q hq => h.own q (.tail _ hq), (List.nodup_cons.1 h.uniq).2⟩
noncomputable def gcdN : Nat → Nat → Nat := opq fun a b => Nat.gcd a b
theorem xGv (a b : Nat) : gcdN a b = Nat.gcd a b := by unfold gcdN; rw [xBs]
theorem gcd_lt_B {a b : Nat} (ha : a < B) (hb : b < B) : Nat.gcd a b < B := by
 by_cases h : b = 0
 ·subst h; rw [Nat.gcd_zero_right]; exact ha
 ·exact Nat.lt_of_le_of_lt (Nat.gcd_le_right _ (by omega)) hb
theorem euclid : ∀ b a : Nat, a < B → b < B → ∃ (N : Nat) (X Y : Nat → Nat), X N = a ∧ Y N = b ∧ Y 0 = 0 ∧ X 0 = gcdN a b ∧ (∀ j, j ≤ N → X j < B ∧ Y j < B) ∧
  ∀ j, j < N → Y (j + 1) ≠ 0 ∧ X j = Y (j + 1) ∧ Y j = rem0 (X (j + 1)) (Y (j + 1)) := by
 intro b
 induction b using Nat.strongRecOn with
 | ind b ih =>
  intro a ha hb
  by_cases h : b = 0
  ·subst h
   refine ⟨0, fun _ => a, fun _ => 0, rfl, rfl, rfl, ?_, fun _ _ => ⟨ha, hb⟩, fun j hj => absurd hj (by omega)⟩
   rw [xGv, Nat.gcd_zero_right]
  ·have hm : a % b < b := Nat.mod_lt _ (by omega)
   obtain ⟨N, X, Y, h1, h2, h3, h4, h5, h6⟩ := ih (a % b) hm b hb (by omega)
   refine ⟨N + 1, fun j => if j = N + 1 then a else X j, fun j => if j = N + 1 then b else Y j, if_pos rfl, if_pos rfl, ?_, ?_, ?_, ?_⟩
   ·show (if 0 = N + 1 then b else Y 0) = 0
    rw [if_neg (by omega)]; exact h3
   ·show (if 0 = N + 1 then a else X 0) = _
    rw [if_neg (by omega), h4, xGv, xGv, Nat.gcd_comm a b, Nat.gcd_rec b a, Nat.gcd_comm]
   ·intro j hj
    show (if j = N + 1 then a else X j) < B ∧ (if j = N + 1 then b else Y j) < B
    by_cases e : j = N + 1
    ·rw [if_pos e, if_pos e]; exact ⟨ha, hb⟩
    ·rw [if_neg e, if_neg e]; exact h5 j (by omega)
   ·intro j hj
    show (if j + 1 = N + 1 then b else Y (j + 1)) ≠ 0 ∧ (if j = N + 1 then a else X j) = (if j + 1 = N + 1 then b else Y (j + 1)) ∧ (if j = N + 1 then b else Y j) = rem0 (if j + 1 = N + 1 then a else X (j + 1)) (if j + 1 = N + 1 then b else Y (j + 1))
    rw [if_neg (show ¬ j = N + 1 by omega), if_neg (show ¬ j = N + 1 by omega)]
    by_cases e : j = N
    ·subst e
     rw [if_pos rfl, if_pos rfl, h1, h2, xEs h]
     exact ⟨h, rfl, rfl⟩
    ·rw [if_neg (by omega), if_neg (by omega)]
     exact h6 j (by omega)
theorem common_any (a b : Nat) (ha : a < B) (hb : b < B) (w : World) : Calls Tryz.prog 209 #[num a, num b] w fun e w' =>
  e = .returned (num (gcdN a b)) ∧ Below w.heap.size w w' := by
 obtain ⟨n, X, Y, hX, hY, hY0, hg, hlt, hst⟩ := euclid b a ha hb
 rw [← hg, ← hX, ← hY]
 clear hg hX hY
 have hR := Rep.init w
 go_enter Tryz.func209, Tryz.ntmps209
 go_wp2_with (first | (refine' aAq hR ?_; clear hR; intro blk w hR) | (refine' aBq hR ?_; clear hR; intro blk w hR))
 go_step3
 go_wp2_with (fail)
 go_step3
 go_wp2_with (fail)
 rename_i b1 _ b2 _ K0 k0
 refine' xBm (false :: false :: false :: false :: false :: true :: true :: true :: true :: true :: true :: true :: true :: true :: true :: true :: true :: true :: true :: true :: false :: []) (fun j l => l) (fun j => [(blk, .cells [.int .u64 0, .int .u64 0, .int .u64 0, .int .u64 0].toArray 24), (b2, .cells (nl (Y j)).toArray 24), (b1, .cells (nl (X j)).toArray 24)]) n ?h0 ?hR ?hs ?he
 case hR =>
  exact hR
 case h0 =>
  exact xAf rfl rfl rfl
 case hs =>
  clear hR k0
  intro j tm w hj ht hR K hK
  repeat (first | (obtain ⟨x, tm', e, ht'⟩ := xAc ht; clear ht; subst e; have ht := ht'; clear ht') | (obtain ⟨tm', e, ht'⟩ := xAa ht; clear ht; subst e; have ht := ht'; clear ht'))
  obtain rfl := xAe ht
  clear ht
  obtain ⟨y0, e1, e2⟩ := hst j hj
  obtain ⟨l1, l2⟩ := hlt (j + 1) (by omega)
  have z := xDq l2 xEy y0
  have cd := fun w => div_any _ _ l1 l2 w
  rw [← e2] at cd
  rw [e1] at hK
  clear hst hlt e2 e1
  generalize X (j + 1) = U at *
  generalize Y (j + 1) = V at *
  go_wp2_with (first | (refine' aBq hR ?_; clear hR; intro blk w hR) | (refine' aEq hR ?_) | (refine' aFq hR ?_; clear hR; intro w hR) | (go_at_call 210; refine (cd _).mono ?_; rintro e w ⟨rfl, hb⟩; replace hR := hR.call hb; clear hb))
  refine xAd hR [0, 1, 2, 2] [0] xBd (by kernel_rfl) rfl rfl (fun K hK => ?_)
  clear hR
  repeat ((first | (refine xAp ?_) | (refine' aIq ?ha ?_) | (refine' aJq ?ha ?_)); try (case ha => simp only [kP, kQ, kA, kB]; try rfl))
  refine xAo (hK _ _ ?_)
  clear hK K
  refine xAr (fun Q hQ => ?_)
  try simp only [List.nil_append, List.cons_append]
  repeat ((refine' aKq ?hk ?ha ?_); (case hk => intro p hp; first | exact absurd hp List.not_mem_nil | (obtain rfl := List.mem_singleton.1 hp; repeat (first | exact List.Mem.head _ | apply mT))); (case ha => simp only [kP, kQ, kA, kB]; try rfl))
  refine xAs (fun w hR => hQ _ _ ?_)
  clear hQ Q
  go_wp2_with (fail)
  exact hK.out _ _ (xAf rfl rfl rfl) hR.tail.tail
 case he =>
  clear hR hst hlt
  intro tm w ht hR K
  repeat (first | (obtain ⟨x, tm', e, ht'⟩ := xAc ht; clear ht; subst e; have ht := ht'; clear ht') | (obtain ⟨tm', e, ht'⟩ := xAa ht; clear ht; subst e; have ht := ht'; clear ht'))
  obtain rfl := xAe ht
  clear ht
  rw [hY0] at hR
  have z := xDm 0
  go_wp2_with (first | (refine' aEq hR ?_) | (refine' aFq hR ?_; clear hR; intro w hR))
  try rw [Exit.noGoto_ret]
  (refine' bodyPost_ret (xAq Tryz.results209 rfl (hR.loadAll (P := Tryz.prog) (ty := 24) ?hm ?hn)) rfl ⟨?_, hR.below⟩; (case hm => first | with_reducible assumption | repeat (first | exact .head _ | apply mT)); (case hn => first | rfl | simp))
  rfl
end
end Go.Proofs.YtaaahfjpnggkbaaGreatDoor
