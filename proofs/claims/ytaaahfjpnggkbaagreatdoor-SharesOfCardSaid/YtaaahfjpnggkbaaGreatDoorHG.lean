import Derived.Test.YtaaahfjpnggkbaaGreatDoorHF2
set_option linter.unusedSimpArgs false
set_option linter.unusedVariables false
set_option maxRecDepth 100000
set_option maxHeartbeats 20000000
namespace Go.Proofs.YtaaahfjpnggkbaaGreatDoor
open Go.RowKit
section
attribute [local irreducible] Calls
theorem s_lit {a b d : Nat} {c : Int} (ha : a < B) (hb : b < B) (hd : (a + B - b) % B = d) (hc : bor (a : Int) (b : Int) = c) (w : World) : Calls Tryz.prog 204 #[num a, num b] w fun e w' =>
  e = .returned (.tuple #[num d, .int .u64 c]) ∧ Below w.heap.size w w' := by
 have := sub_any a b ha hb w
 rw [hc, ← xHj (a + B - b), hd] at this
 exact this
theorem addm_any (a b m : Nat) (ha : a < m) (hb : b < m) (hm : m < B) (w : World) : Calls Tryz.prog 202 #[num a, num b, num m] w fun e w' =>
  e = .returned (num ((a + b) % m)) ∧ Below w.heap.size w w' := by
 have bp := xEy
 obtain ⟨x, hx⟩ : ∃ x, (a + b) % B = x := ⟨_, rfl⟩
 obtain ⟨k, hk⟩ : ∃ k, (a + b) / B = k := ⟨_, rfl⟩
 have hdm := Nat.div_add_mod (a + b) B
 rw [hx, hk] at hdm
 have lx : x < B := by rw [← hx]; exact Nat.mod_lt _ bp
 have lk : k < 2 := by rw [← hk, Nat.div_lt_iff_lt_mul bp]; omega
 obtain ⟨y, hy⟩ : ∃ y, (x + B - m) % B = y := ⟨_, rfl⟩
 have s1 := a_lit (c := (k : Int)) (by omega : a < B) (by omega : b < B) hx (by rw [hk])
 have d1 := s_lit lx hm hy rfl
 have hbor := xDo (x : Int) (m : Int)
 by_cases hc : m ≤ a + b
 ·have hr : (a + b) % m = a + b - m := by rw [Nat.mod_eq_sub_mod hc, Nat.mod_eq_of_lt (by omega)]
  have ey : y = (a + b) % m := by
   rw [hr, ← hy]
   have : k = 0 ∨ k = 1 := by omega
   rcases this with rfl | rfl
   ·rw [show x + B - m = (a + b - m) + B by omega, Nat.add_mod_right, Nat.mod_eq_of_lt (by omega)]
   ·rw [show x + B - m = a + b - m by omega, Nat.mod_eq_of_lt (by omega)]
  rw [← ey]
  have hcase : (k : Int) = 1 ∨ ((k : Int) = 0 ∧ bor (x : Int) (m : Int) = 0) := by
   have : k = 0 ∨ k = 1 := by omega
   rcases this with rfl | rfl
   ·right
    refine ⟨rfl, ?_⟩
    rw [hbor, if_neg (by omega)]
   ·exact .inl rfl
  generalize bor (x : Int) (m : Int) = l at *
  clear hbor hc hr ey hx hk hdm lx lk hy bp
  generalize (k : Int) = k at *
  have hR := Rep.init w
  rcases hcase with rfl | ⟨rfl, rfl⟩
  all_goals
   go_enter Tryz.func202, Tryz.ntmps202
   go_wp2_with (first | (refine' aAq hR ?_; clear hR; intro blk w hR) | (refine' aBq hR ?_; clear hR; intro blk w hR) | (refine' aEq hR ?_) | (refine' aFq hR ?_; clear hR; intro w hR) | (go_at_call 203; refine (s1 _).mono ?_; rintro e w ⟨rfl, hb⟩; replace hR := hR.call hb; clear hb) | (go_at_call 204; refine (d1 _).mono ?_; rintro e w ⟨rfl, hb⟩; replace hR := hR.call hb; clear hb))
   (refine' bodyPost_ret (xAq Tryz.results202 rfl (hR.loadAll (P := Tryz.prog) (ty := 24) ?hm ?hn)) rfl ⟨?_, hR.below⟩; (case hm => first | with_reducible assumption | repeat (first | exact .head _ | apply mT)); (case hn => first | rfl | simp))
   rfl
 ·have hr : (a + b) % m = x := by
   rw [Nat.mod_eq_of_lt (by omega), ← hx, Nat.mod_eq_of_lt (by omega)]
  have k0 : (k : Int) = 0 := by
   rw [← hk, Nat.div_eq_of_lt (by omega)]; rfl
  have b1 : bor (x : Int) (m : Int) = 1 := by
   rw [hbor, if_pos]
   rw [← hx, Nat.mod_eq_of_lt (by omega)]; omega
  rw [hr]
  rw [k0] at s1
  rw [b1] at d1
  clear hbor hc hr hx hk hdm lx lk hy bp k0 b1
  have hR := Rep.init w
  go_enter Tryz.func202, Tryz.ntmps202
  go_wp2_with (first | (refine' aAq hR ?_; clear hR; intro blk w hR) | (refine' aBq hR ?_; clear hR; intro blk w hR) | (refine' aEq hR ?_) | (refine' aFq hR ?_; clear hR; intro w hR) | (go_at_call 203; refine (s1 _).mono ?_; rintro e w ⟨rfl, hb⟩; replace hR := hR.call hb; clear hb) | (go_at_call 204; refine (d1 _).mono ?_; rintro e w ⟨rfl, hb⟩; replace hR := hR.call hb; clear hb))
  (refine' bodyPost_ret (xAq Tryz.results202 rfl (hR.loadAll (P := Tryz.prog) (ty := 24) ?hm ?hn)) rfl ⟨?_, hR.below⟩; (case hm => first | with_reducible assumption | repeat (first | exact .head _ | apply mT)); (case hn => first | rfl | simp))
  rfl
noncomputable def subN : Nat → Nat → Nat → Nat := opq fun a b m => (a + (m - b)) % m
theorem xEi (a b m : Nat) : subN a b m = (a + (m - b)) % m := by unfold subN; rw [xBs]
theorem subm_any (a b m : Nat) (ha : a < m) (hb : b < m) (hm : m < B) (w : World) : Calls Tryz.prog 206 #[num a, num b, num m] w fun e w' =>
  e = .returned (num (subN a b m)) ∧ Below w.heap.size w w' := by
 have bp := xEy
 obtain ⟨x, hx⟩ : ∃ x, (a + B - b) % B = x := ⟨_, rfl⟩
 have lx : x < B := by rw [← hx]; exact Nat.mod_lt _ bp
 obtain ⟨r, hr⟩ : ∃ r, subN a b m = r := ⟨_, rfl⟩
 rw [hr]
 rw [xEi] at hr
 by_cases hc : a < b
 ·have d1 := s_lit (c := 1) (by omega : a < B) (by omega : b < B) hx (by rw [xDo, if_pos (by omega)])
  have e1 : x = a + B - b := by rw [← hx, Nat.mod_eq_of_lt (by omega)]
  have e2 : r = a + (m - b) := by rw [← hr, Nat.mod_eq_of_lt (by omega)]
  obtain ⟨c, hcc⟩ : ∃ c : Int, (((x + m) / B : Nat) : Int) = c := ⟨_, rfl⟩
  have s1 := a_lit (s := r) lx hm (by rw [e1, e2, show a + B - b + m = (a + (m - b)) + B by omega, Nat.add_mod_right, Nat.mod_eq_of_lt (by omega)]) hcc
  clear bp hx lx hr hc e1 e2 hcc
  have hR := Rep.init w
  go_enter Tryz.func206, Tryz.ntmps206
  go_wp2_with (first | (refine' aAq hR ?_; clear hR; intro blk w hR) | (refine' aBq hR ?_; clear hR; intro blk w hR) | (refine' aEq hR ?_) | (refine' aFq hR ?_; clear hR; intro w hR) | (go_at_call 203; refine (s1 _).mono ?_; rintro e w ⟨rfl, hb⟩; replace hR := hR.call hb; clear hb) | (go_at_call 204; refine (d1 _).mono ?_; rintro e w ⟨rfl, hb⟩; replace hR := hR.call hb; clear hb))
  (refine' bodyPost_ret (xAq Tryz.results206 rfl (hR.loadAll (P := Tryz.prog) (ty := 24) ?hm ?hn)) rfl ⟨?_, hR.below⟩; (case hm => first | with_reducible assumption | repeat (first | exact .head _ | apply mT)); (case hn => first | rfl | simp))
  rfl
 ·have d1 := s_lit (c := 0) (by omega : a < B) (by omega : b < B) hx (by rw [xDo, if_neg (by omega)])
  have e2 : r = x := by
   rw [← hr, ← hx, show a + (m - b) = (a - b) + m by omega, Nat.add_mod_right, Nat.mod_eq_of_lt (by omega), show a + B - b = (a - b) + B by omega, Nat.add_mod_right, Nat.mod_eq_of_lt (by omega)]
  rw [e2]
  clear bp hx lx hr hc e2
  have hR := Rep.init w
  go_enter Tryz.func206, Tryz.ntmps206
  go_wp2_with (first | (refine' aAq hR ?_; clear hR; intro blk w hR) | (refine' aBq hR ?_; clear hR; intro blk w hR) | (refine' aEq hR ?_) | (refine' aFq hR ?_; clear hR; intro w hR) | (go_at_call 204; refine (d1 _).mono ?_; rintro e w ⟨rfl, hb⟩; replace hR := hR.call hb; clear hb))
  (refine' bodyPost_ret (xAq Tryz.results206 rfl (hR.loadAll (P := Tryz.prog) (ty := 24) ?hm ?hn)) rfl ⟨?_, hR.below⟩; (case hm => first | with_reducible assumption | repeat (first | exact .head _ | apply mT)); (case hn => first | rfl | simp))
  rfl
end
section
attribute [local irreducible] Calls
theorem word_any (a b m : Nat) (ha : a < m) (hb : b < 18446744073709551616) (hm : m < 18446744073709551616) (w : World) : Calls Tryz.prog 217 #[.int .u64 (a : Int), .int .u64 (b : Int), .int .u64 (m : Int)] w fun e w' =>
  e = .returned (.int .u64 ((a * b % m : Nat) : Int)) ∧ Below w.heap.size w w' := by
 obtain ⟨h, hh⟩ : ∃ h, a * b / 18446744073709551616 = h := ⟨_, rfl⟩
 obtain ⟨l, hl⟩ : ∃ l, a * b % 18446744073709551616 = l := ⟨_, rfl⟩
 have e := Nat.div_add_mod (a * b) 18446744073709551616
 have lh : h < m := by
  rw [← hh, Nat.div_lt_iff_lt_mul (by decide)]
  exact Nat.mul_lt_mul_of_lt_of_le ha (by omega) (by omega)
 have ll : l < 18446744073709551616 := by rw [← hl]; exact Nat.mod_lt _ (by decide)
 have m1 := fun w => mul64_any a b (by omega) hb w
 rw [mhi_def, mlo_def, hh, hl] at m1
 have d1 := fun w => xGo h l m lh hm ll w
 rw [show h * 18446744073709551616 + l = a * b by rw [← e, hh, hl, Nat.mul_comm]] at d1
 obtain ⟨q, hq⟩ : ∃ q, a * b / m = q := ⟨_, rfl⟩
 obtain ⟨r, hr⟩ : ∃ r, a * b % m = r := ⟨_, rfl⟩
 rw [hq, hr] at d1
 rw [hr]
 clear hh hl e lh ll hq hr
 have hR := Rep.init w
 go_enter Tryz.func217, Tryz.ntmps217
 go_wp2_with (first | (go_at_call 232; refine (m1 _).mono ?_; rintro e w ⟨rfl, hb⟩; replace hR := hR.call hb; clear hb) | (go_at_call 229; refine (d1 _).mono ?_; rintro e w ⟨rfl, hb⟩; replace hR := hR.call hb; clear hb))
 go_ret
 exact ⟨rfl, hR.below⟩
noncomputable def mulN : Nat → Nat → Nat → Nat := opq fun a b m => a * b % m
theorem xCm (a b m : Nat) : mulN a b m = a * b % m := by unfold mulN; rw [xBs]
theorem xIi (a b m : Nat) (ha : a < m) (hb : b < m) (hm : m < B) (w : World) : Calls Tryz.prog 207 #[num a, num b, num m] w fun e w' =>
  e = .returned (num (mulN a b m)) ∧ Below w.heap.size w w' := by
 have bp := xEy
 have cb := fun w => xGb m hm w
 obtain ⟨r, hr⟩ : ∃ r, mulN a b m = r := ⟨_, rfl⟩
 rw [hr]
 rw [xCm] at hr
 have lr : r < m := by rw [← hr]; exact Nat.mod_lt _ (by omega)
 by_cases hs : m < 18446744073709551616
 ·have hl : (blen m : Int) ≤ 64 := by
   have := (xBg m 64).mpr hs
   omega
  have ea : wd a 0 = (a : Int) := by rw [xFm]; unfold w64; omega
  have eb : wd b 0 = (b : Int) := by rw [xFm]; unfold w64; omega
  have em : wd m 0 = (m : Int) := by rw [xFm]; unfold w64; omega
  have w1 := fun w => word_any a b m ha (by omega) hs w
  rw [hr, ← ea, ← eb, ← em] at w1
  have o1 := fun w => xFh r (by omega) w
  generalize (blen m : Int) = bl at *
  clear hr lr hs ea eb em bp
  have hR := Rep.init w
  go_enter Tryz.func207, Tryz.ntmps207
  go_wp2_with (first | (refine' aAq hR ?_; clear hR; intro blk w hR) | (refine' aBq hR ?_; clear hR; intro blk w hR) | (refine' aEq hR ?_) | (refine' aGq hR ?_) | (refine' aFq hR ?_; clear hR; intro w hR) | (go_at_call 169; refine (cb _).mono ?_; rintro e w ⟨rfl, hb⟩; replace hR := hR.call hb; clear hb) | (go_at_call 217; refine (w1 _).mono ?_; rintro e w ⟨rfl, hb⟩; replace hR := hR.call hb; clear hb) | (go_at_call 171; refine (o1 _).mono ?_; rintro e w ⟨rfl, hb⟩; replace hR := hR.call hb; clear hb))
  (refine' bodyPost_ret (xAq Tryz.results207 rfl (hR.loadAll (P := Tryz.prog) (ty := 24) ?hm ?hn)) rfl ⟨?_, hR.below⟩; (case hm => first | with_reducible assumption | repeat (first | exact .head _ | apply mT)); (case hn => first | rfl | simp))
  rfl
 ·have hl : ¬ (blen m : Int) ≤ 64 := fun h => hs ((xBg m 64).mp (by omega))
  obtain ⟨l, hll⟩ : ∃ l, a * b % B = l := ⟨_, rfl⟩
  obtain ⟨h, hh⟩ : ∃ h, a * b / B = h := ⟨_, rfl⟩
  have ll : l < B := by rw [← hll]; exact Nat.mod_lt _ bp
  have lh : h < B := by
   rw [← hh, Nat.div_lt_iff_lt_mul bp]
   exact Nat.mul_lt_mul_of_lt_of_le (by omega) (by omega) (by omega)
  have m1 := m_lit (by omega : a < B) (by omega : b < B) hll hh
  have w1 := w_lit (r := r) (e := 0) ll lh hm (by
   have e := Nat.div_add_mod (a * b) B
   rw [hll, hh, Nat.mul_comm] at e
   rw [xFn, if_neg (by omega), e, hr]) (by rw [if_neg (by omega)])
  generalize (blen m : Int) = bl at *
  clear hr lr hs hll hh ll lh bp
  have hR := Rep.init w
  go_enter Tryz.func207, Tryz.ntmps207
  go_wp2_with (first | (refine' aAq hR ?_; clear hR; intro blk w hR) | (refine' aBq hR ?_; clear hR; intro blk w hR) | (refine' aEq hR ?_) | (refine' aFq hR ?_; clear hR; intro w hR) | (go_at_call 169; refine (cb _).mono ?_; rintro e w ⟨rfl, hb⟩; replace hR := hR.call hb; clear hb) | (go_at_call 226; refine (m1 _).mono ?_; rintro e w ⟨rfl, hb⟩; replace hR := hR.call hb; clear hb) | (go_at_call 227; refine (w1 _).mono ?_; rintro e w ⟨rfl, hb⟩; replace hR := hR.call hb; clear hb))
  (refine' bodyPost_ret (xAq Tryz.results207 rfl (hR.loadAll (P := Tryz.prog) (ty := 24) ?hm ?hn)) rfl ⟨?_, hR.below⟩; (case hm => first | with_reducible assumption | repeat (first | exact .head _ | apply mT)); (case hn => first | rfl | simp))
  rfl
end
section
attribute [local irreducible] Calls
instance : xDp Tryz.prog 257 := .mk' (by kernel_rfl) (by kernel_rfl)
def okM (a b m : Nat) : Prop := 1 < m ∧ a < m ∧ b < m
instance (a b m : Nat) : Decidable (okM a b m) := by unfold okM; infer_instance
theorem deed_add (a b m : Nat) (ha : a < B) (hb : b < B) (hm : m < B) (w : World) : Calls Tryz.prog 205 #[.agg #[.func (.func 202) #[] #[]], num a, num b, num m] w fun e w' =>
  e = .returned (.tuple #[num (if okM a b m then (a + b) % m else 0), .int .i64 (if okM a b m then 0 else 1)]) ∧ Below w.heap.size w w' := by
 obtain ⟨n1, h1⟩ : ∃ n, n = 1 := ⟨_, rfl⟩
 have o1 : ∀ w, Calls Tryz.prog 171 #[.int .u64 1] w fun e w' => e = .returned (num n1) ∧ Below w.heap.size w w' := fun w => by
  rw [h1]; exact xFh 1 (by decide) w
 have L1 : n1 < B := lt_B (by omega)
 have c1 := xDg hm L1 rfl
 have c2 := xDg ha hm rfl
 have c3 := xDg hb hm rfl
 have k1 := xHi m n1
 have k2 := xFv a m
 have k3 := xFv b m
 by_cases ok : okM a b m
 ·rw [if_pos ok, if_pos ok]
  have hd := fun w => addm_any a b m ok.2.1 ok.2.2 hm w
  generalize (a + b) % m = res at *
  have j1 : ¬ cmpN m n1 ≤ 0 := fun h => by have := k1.mp h; have := ok.1; omega
  have j2 : ¬ 0 ≤ cmpN a m := fun h => by have := k2.mp h; have := ok.2.1; omega
  have j3 : ¬ 0 ≤ cmpN b m := fun h => by have := k3.mp h; have := ok.2.2; omega
  generalize cmpN m n1 = x1 at *
  generalize cmpN a m = x2 at *
  generalize cmpN b m = x3 at *
  have q1 : decide (x1 ≤ 0) = false := decide_eq_false j1
  have q2 : decide (0 ≤ x2) = false := decide_eq_false j2
  have q3 : decide (0 ≤ x3) = false := decide_eq_false j3
  clear k1 k2 k3 ok L1 h1 j1 j2 j3
  have hR := Rep.init w
  go_enter Tryz.func205, Tryz.ntmps205
  go_wp2_with (first | (refine' aAq hR ?_; clear hR; intro blk w hR) | (refine' aBq hR ?_; clear hR; intro blk w hR))
  refine xAd hR [0, 0, 0, 0, 0, 0, 0, 0, 0, 0, 0, 0, 0, 0, 0, 0] [] xBd (by kernel_rfl) rfl rfl (fun K hK => ?_)
  clear hR
  repeat ((first | (refine' xAj (by decide) rfl (.inl rfl) rfl ?ha ?_) | (refine' aIq ?ha ?_) | ((refine' xAm (by decide) rfl rfl rfl rfl (fun w => ?hq) ?ha ?_); (case hq => go_simp; try rfl)) | (refine' xBh (by decide) rfl rfl rfl rfl ?ha ?_) | (refine' xAk rfl rfl rfl (xAi Tryz.func171 (by kernel_rfl) (by kernel_rfl) _) (fun w => o1 w) ?ha ?_) | (refine' xAk rfl rfl rfl (xAi Tryz.func183 (by kernel_rfl) (by kernel_rfl) _) (fun w => c1 w) ?ha ?_) | (refine' xAk rfl rfl rfl (xAi Tryz.func183 (by kernel_rfl) (by kernel_rfl) _) (fun w => c2 w) ?ha ?_) | (refine' xAk rfl rfl rfl (xAi Tryz.func183 (by kernel_rfl) (by kernel_rfl) _) (fun w => c3 w) ?ha ?_)); try (case ha => simp only [kP, kQ, kA, kB]; try rfl))
  refine xAo (hK _ _ ?_)
  clear hK K
  refine xAr (fun Q hQ => ?_)
  try simp only [List.nil_append, List.cons_append]
  repeat ((fail); (case hk => intro p hp; first | exact absurd hp List.not_mem_nil | (obtain rfl := List.mem_singleton.1 hp; repeat (first | exact List.Mem.head _ | apply mT))); (case ha => simp only [kP, kQ, kA, kB]; try rfl))
  refine xAs (fun w hR => hQ _ _ ?_)
  clear hQ Q
  go_wp2_with (first | (refine' aEq hR ?_) | (refine' aGq hR ?_) | (refine' aFq hR ?_; clear hR; intro w hR) | (go_at_call 202; refine (hd _).mono ?_; rintro e w ⟨rfl, hb⟩; replace hR := hR.call hb; clear hb))
  (refine' bodyPost_ret (xAh Tryz.results205 rfl (hR.loadAll (P := Tryz.prog) (ty := 24) ?hm ?hn)) rfl ⟨?_, hR.below⟩; (case hm => first | with_reducible assumption | repeat (first | exact .head _ | apply mT)); (case hn => first | rfl | simp))
  rfl
 ·rw [if_neg ok, if_neg ok]
  have hc : decide (cmpN m n1 ≤ 0) = true ∨ (decide (cmpN m n1 ≤ 0) = false ∧ decide (0 ≤ cmpN a m) = true) ∨ (decide (cmpN m n1 ≤ 0) = false ∧ decide (0 ≤ cmpN a m) = false ∧ decide (0 ≤ cmpN b m) = true) := by
   simp only [decide_eq_true_iff, decide_eq_false_iff_not]
   rw [k1, k2, k3]
   unfold okM at ok
   omega
  generalize cmpN m n1 = x1 at *
  generalize cmpN a m = x2 at *
  generalize cmpN b m = x3 at *
  clear k1 k2 k3 ok L1 h1
  have hR := Rep.init w
  rcases hc with j1 | ⟨j1, j2⟩ | ⟨j1, j2, j3⟩
  all_goals
   go_enter Tryz.func205, Tryz.ntmps205
   go_wp2_with (first | (refine' aAq hR ?_; clear hR; intro blk w hR) | (refine' aBq hR ?_; clear hR; intro blk w hR))
   refine xAd hR [0, 0, 0, 0, 0, 0, 0, 0, 0, 0, 0, 0, 0, 0, 0, 0] [] xBd (by kernel_rfl) rfl rfl (fun K hK => ?_)
   clear hR
   repeat ((first | (refine' xAj (by decide) rfl (.inl rfl) rfl ?ha ?_) | (refine' aIq ?ha ?_) | ((refine' xAm (by decide) rfl rfl rfl rfl (fun w => ?hq) ?ha ?_); (case hq => go_simp; try rfl)) | (refine' xBh (by decide) rfl rfl rfl rfl ?ha ?_) | (refine' xCe (by decide) rfl ?ha ?_) | (refine' xAk rfl rfl rfl (xAi Tryz.func171 (by kernel_rfl) (by kernel_rfl) _) (fun w => o1 w) ?ha ?_) | (refine' xAk rfl rfl rfl (xAi Tryz.func183 (by kernel_rfl) (by kernel_rfl) _) (fun w => c1 w) ?ha ?_) | (refine' xAk rfl rfl rfl (xAi Tryz.func183 (by kernel_rfl) (by kernel_rfl) _) (fun w => c2 w) ?ha ?_) | (refine' xAk rfl rfl rfl (xAi Tryz.func183 (by kernel_rfl) (by kernel_rfl) _) (fun w => c3 w) ?ha ?_)); try (case ha => simp only [kP, kQ, kA, kB]; try rfl))
   refine xAo (hK _ _ ?_)
   clear hK K
   refine xAr (fun Q hQ => ?_)
   try simp only [List.nil_append, List.cons_append]
   repeat ((fail); (case hk => intro p hp; first | exact absurd hp List.not_mem_nil | (obtain rfl := List.mem_singleton.1 hp; repeat (first | exact List.Mem.head _ | apply mT))); (case ha => simp only [kP, kQ, kA, kB]; try rfl))
   refine xAs (fun w hR => hQ _ _ ?_)
   clear hQ Q
   go_wp2_with (refine' aFq hR ?_; clear hR; intro w hR)
   (refine' bodyPost_ret (xAh Tryz.results205 rfl (hR.loadAll (P := Tryz.prog) (ty := 24) ?hm ?hn)) rfl ⟨?_, hR.below⟩; (case hm => first | with_reducible assumption | repeat (first | exact .head _ | apply mT)); (case hn => first | rfl | simp))
   rw [xBe]
   rfl
theorem mods_add (a b m : Nat) (ha : a < B) (hb : b < B) (hm : m < B) (w : World) : Calls Tryz.prog 173 #[num a, num b, num m] w fun e w' =>
  e = .returned (.tuple #[num (if okM a b m then (a + b) % m else 0), .int .i64 (if okM a b m then 0 else 1)]) ∧ Below w.heap.size w w' := by
 have hd := fun w => deed_add a b m ha hb hm w
 generalize (if okM a b m then (a + b) % m else 0) = res at *
 generalize (if okM a b m then (0 : Int) else 1) = er at *
 have hR := Rep.init w
 go_enter Tryz.func173, Tryz.ntmps173
 go_wp2_with (first | (refine' aAq hR ?_; clear hR; intro blk w hR) | (refine' aBq hR ?_; clear hR; intro blk w hR) | (refine' aEq hR ?_) | (refine' aFq hR ?_; clear hR; intro w hR) | (go_at_call 205; refine (hd _).mono ?_; rintro e w ⟨rfl, hb⟩; replace hR := hR.call hb; clear hb))
 (refine' bodyPost_ret (xAh Tryz.results173 rfl (hR.loadAll (P := Tryz.prog) (ty := 24) ?hm ?hn)) rfl ⟨?_, hR.below⟩; (case hm => first | with_reducible assumption | repeat (first | exact .head _ | apply mT)); (case hn => first | rfl | simp))
 rfl
theorem deed_sub (a b m : Nat) (ha : a < B) (hb : b < B) (hm : m < B) (w : World) : Calls Tryz.prog 205 #[.agg #[.func (.func 206) #[] #[]], num a, num b, num m] w fun e w' =>
  e = .returned (.tuple #[num (if okM a b m then subN a b m else 0), .int .i64 (if okM a b m then 0 else 1)]) ∧ Below w.heap.size w w' := by
 obtain ⟨n1, h1⟩ : ∃ n, n = 1 := ⟨_, rfl⟩
 have o1 : ∀ w, Calls Tryz.prog 171 #[.int .u64 1] w fun e w' => e = .returned (num n1) ∧ Below w.heap.size w w' := fun w => by
  rw [h1]; exact xFh 1 (by decide) w
 have L1 : n1 < B := lt_B (by omega)
 have c1 := xDg hm L1 rfl
 have c2 := xDg ha hm rfl
 have c3 := xDg hb hm rfl
 have k1 := xHi m n1
 have k2 := xFv a m
 have k3 := xFv b m
 by_cases ok : okM a b m
 ·rw [if_pos ok, if_pos ok]
  have hd := fun w => subm_any a b m ok.2.1 ok.2.2 hm w
  generalize subN a b m = res at *
  have j1 : ¬ cmpN m n1 ≤ 0 := fun h => by have := k1.mp h; have := ok.1; omega
  have j2 : ¬ 0 ≤ cmpN a m := fun h => by have := k2.mp h; have := ok.2.1; omega
  have j3 : ¬ 0 ≤ cmpN b m := fun h => by have := k3.mp h; have := ok.2.2; omega
  generalize cmpN m n1 = x1 at *
  generalize cmpN a m = x2 at *
  generalize cmpN b m = x3 at *
  have q1 : decide (x1 ≤ 0) = false := decide_eq_false j1
  have q2 : decide (0 ≤ x2) = false := decide_eq_false j2
  have q3 : decide (0 ≤ x3) = false := decide_eq_false j3
  clear k1 k2 k3 ok L1 h1 j1 j2 j3
  have hR := Rep.init w
  go_enter Tryz.func205, Tryz.ntmps205
  go_wp2_with (first | (refine' aAq hR ?_; clear hR; intro blk w hR) | (refine' aBq hR ?_; clear hR; intro blk w hR))
  refine xAd hR [0, 0, 0, 0, 0, 0, 0, 0, 0, 0, 0, 0, 0, 0, 0, 0] [] xBd (by kernel_rfl) rfl rfl (fun K hK => ?_)
  clear hR
  repeat ((first | (refine' xAj (by decide) rfl (.inl rfl) rfl ?ha ?_) | (refine' aIq ?ha ?_) | ((refine' xAm (by decide) rfl rfl rfl rfl (fun w => ?hq) ?ha ?_); (case hq => go_simp; try rfl)) | (refine' xBh (by decide) rfl rfl rfl rfl ?ha ?_) | (refine' xAk rfl rfl rfl (xAi Tryz.func171 (by kernel_rfl) (by kernel_rfl) _) (fun w => o1 w) ?ha ?_) | (refine' xAk rfl rfl rfl (xAi Tryz.func183 (by kernel_rfl) (by kernel_rfl) _) (fun w => c1 w) ?ha ?_) | (refine' xAk rfl rfl rfl (xAi Tryz.func183 (by kernel_rfl) (by kernel_rfl) _) (fun w => c2 w) ?ha ?_) | (refine' xAk rfl rfl rfl (xAi Tryz.func183 (by kernel_rfl) (by kernel_rfl) _) (fun w => c3 w) ?ha ?_)); try (case ha => simp only [kP, kQ, kA, kB]; try rfl))
  refine xAo (hK _ _ ?_)
  clear hK K
  refine xAr (fun Q hQ => ?_)
  try simp only [List.nil_append, List.cons_append]
  repeat ((fail); (case hk => intro p hp; first | exact absurd hp List.not_mem_nil | (obtain rfl := List.mem_singleton.1 hp; repeat (first | exact List.Mem.head _ | apply mT))); (case ha => simp only [kP, kQ, kA, kB]; try rfl))
  refine xAs (fun w hR => hQ _ _ ?_)
  clear hQ Q
  go_wp2_with (first | (refine' aEq hR ?_) | (refine' aGq hR ?_) | (refine' aFq hR ?_; clear hR; intro w hR) | (go_at_call 206; refine (hd _).mono ?_; rintro e w ⟨rfl, hb⟩; replace hR := hR.call hb; clear hb))
  (refine' bodyPost_ret (xAh Tryz.results205 rfl (hR.loadAll (P := Tryz.prog) (ty := 24) ?hm ?hn)) rfl ⟨?_, hR.below⟩; (case hm => first | with_reducible assumption | repeat (first | exact .head _ | apply mT)); (case hn => first | rfl | simp))
  rfl
 ·rw [if_neg ok, if_neg ok]
  have hc : decide (cmpN m n1 ≤ 0) = true ∨ (decide (cmpN m n1 ≤ 0) = false ∧ decide (0 ≤ cmpN a m) = true) ∨ (decide (cmpN m n1 ≤ 0) = false ∧ decide (0 ≤ cmpN a m) = false ∧ decide (0 ≤ cmpN b m) = true) := by
   simp only [decide_eq_true_iff, decide_eq_false_iff_not]
   rw [k1, k2, k3]
   unfold okM at ok
   omega
  generalize cmpN m n1 = x1 at *
  generalize cmpN a m = x2 at *
  generalize cmpN b m = x3 at *
  clear k1 k2 k3 ok L1 h1
  have hR := Rep.init w
  rcases hc with j1 | ⟨j1, j2⟩ | ⟨j1, j2, j3⟩
  all_goals
   go_enter Tryz.func205, Tryz.ntmps205
   go_wp2_with (first | (refine' aAq hR ?_; clear hR; intro blk w hR) | (refine' aBq hR ?_; clear hR; intro blk w hR))
   refine xAd hR [0, 0, 0, 0, 0, 0, 0, 0, 0, 0, 0, 0, 0, 0, 0, 0] [] xBd (by kernel_rfl) rfl rfl (fun K hK => ?_)
   clear hR
   repeat ((first | (refine' xAj (by decide) rfl (.inl rfl) rfl ?ha ?_) | (refine' aIq ?ha ?_) | ((refine' xAm (by decide) rfl rfl rfl rfl (fun w => ?hq) ?ha ?_); (case hq => go_simp; try rfl)) | (refine' xBh (by decide) rfl rfl rfl rfl ?ha ?_) | (refine' xCe (by decide) rfl ?ha ?_) | (refine' xAk rfl rfl rfl (xAi Tryz.func171 (by kernel_rfl) (by kernel_rfl) _) (fun w => o1 w) ?ha ?_) | (refine' xAk rfl rfl rfl (xAi Tryz.func183 (by kernel_rfl) (by kernel_rfl) _) (fun w => c1 w) ?ha ?_) | (refine' xAk rfl rfl rfl (xAi Tryz.func183 (by kernel_rfl) (by kernel_rfl) _) (fun w => c2 w) ?ha ?_) | (refine' xAk rfl rfl rfl (xAi Tryz.func183 (by kernel_rfl) (by kernel_rfl) _) (fun w => c3 w) ?ha ?_)); try (case ha => simp only [kP, kQ, kA, kB]; try rfl))
   refine xAo (hK _ _ ?_)
   clear hK K
   refine xAr (fun Q hQ => ?_)
   try simp only [List.nil_append, List.cons_append]
   repeat ((fail); (case hk => intro p hp; first | exact absurd hp List.not_mem_nil | (obtain rfl := List.mem_singleton.1 hp; repeat (first | exact List.Mem.head _ | apply mT))); (case ha => simp only [kP, kQ, kA, kB]; try rfl))
   refine xAs (fun w hR => hQ _ _ ?_)
   clear hQ Q
   go_wp2_with (refine' aFq hR ?_; clear hR; intro w hR)
   (refine' bodyPost_ret (xAh Tryz.results205 rfl (hR.loadAll (P := Tryz.prog) (ty := 24) ?hm ?hn)) rfl ⟨?_, hR.below⟩; (case hm => first | with_reducible assumption | repeat (first | exact .head _ | apply mT)); (case hn => first | rfl | simp))
   rw [xBe]
   rfl
theorem mods_sub (a b m : Nat) (ha : a < B) (hb : b < B) (hm : m < B) (w : World) : Calls Tryz.prog 175 #[num a, num b, num m] w fun e w' =>
  e = .returned (.tuple #[num (if okM a b m then subN a b m else 0), .int .i64 (if okM a b m then 0 else 1)]) ∧ Below w.heap.size w w' := by
 have hd := fun w => deed_sub a b m ha hb hm w
 generalize (if okM a b m then subN a b m else 0) = res at *
 generalize (if okM a b m then (0 : Int) else 1) = er at *
 have hR := Rep.init w
 go_enter Tryz.func175, Tryz.ntmps175
 go_wp2_with (first | (refine' aAq hR ?_; clear hR; intro blk w hR) | (refine' aBq hR ?_; clear hR; intro blk w hR) | (refine' aEq hR ?_) | (refine' aFq hR ?_; clear hR; intro w hR) | (go_at_call 205; refine (hd _).mono ?_; rintro e w ⟨rfl, hb⟩; replace hR := hR.call hb; clear hb))
 (refine' bodyPost_ret (xAh Tryz.results175 rfl (hR.loadAll (P := Tryz.prog) (ty := 24) ?hm ?hn)) rfl ⟨?_, hR.below⟩; (case hm => first | with_reducible assumption | repeat (first | exact .head _ | apply mT)); (case hn => first | rfl | simp))
 rfl
theorem deed_mul (a b m : Nat) (ha : a < B) (hb : b < B) (hm : m < B) (w : World) : Calls Tryz.prog 205 #[.agg #[.func (.func 207) #[] #[]], num a, num b, num m] w fun e w' =>
  e = .returned (.tuple #[num (if okM a b m then mulN a b m else 0), .int .i64 (if okM a b m then 0 else 1)]) ∧ Below w.heap.size w w' := by
 obtain ⟨n1, h1⟩ : ∃ n, n = 1 := ⟨_, rfl⟩
 have o1 : ∀ w, Calls Tryz.prog 171 #[.int .u64 1] w fun e w' => e = .returned (num n1) ∧ Below w.heap.size w w' := fun w => by
  rw [h1]; exact xFh 1 (by decide) w
 have L1 : n1 < B := lt_B (by omega)
 have c1 := xDg hm L1 rfl
 have c2 := xDg ha hm rfl
 have c3 := xDg hb hm rfl
 have k1 := xHi m n1
 have k2 := xFv a m
 have k3 := xFv b m
 by_cases ok : okM a b m
 ·rw [if_pos ok, if_pos ok]
  have hd := fun w => xIi a b m ok.2.1 ok.2.2 hm w
  generalize mulN a b m = res at *
  have j1 : ¬ cmpN m n1 ≤ 0 := fun h => by have := k1.mp h; have := ok.1; omega
  have j2 : ¬ 0 ≤ cmpN a m := fun h => by have := k2.mp h; have := ok.2.1; omega
  have j3 : ¬ 0 ≤ cmpN b m := fun h => by have := k3.mp h; have := ok.2.2; omega
  generalize cmpN m n1 = x1 at *
  generalize cmpN a m = x2 at *
  generalize cmpN b m = x3 at *
  have q1 : decide (x1 ≤ 0) = false := decide_eq_false j1
  have q2 : decide (0 ≤ x2) = false := decide_eq_false j2
  have q3 : decide (0 ≤ x3) = false := decide_eq_false j3
  clear k1 k2 k3 ok L1 h1 j1 j2 j3
  have hR := Rep.init w
  go_enter Tryz.func205, Tryz.ntmps205
  go_wp2_with (first | (refine' aAq hR ?_; clear hR; intro blk w hR) | (refine' aBq hR ?_; clear hR; intro blk w hR))
  refine xAd hR [0, 0, 0, 0, 0, 0, 0, 0, 0, 0, 0, 0, 0, 0, 0, 0] [] xBd (by kernel_rfl) rfl rfl (fun K hK => ?_)
  clear hR
  repeat ((first | (refine' xAj (by decide) rfl (.inl rfl) rfl ?ha ?_) | (refine' aIq ?ha ?_) | ((refine' xAm (by decide) rfl rfl rfl rfl (fun w => ?hq) ?ha ?_); (case hq => go_simp; try rfl)) | (refine' xBh (by decide) rfl rfl rfl rfl ?ha ?_) | (refine' xAk rfl rfl rfl (xAi Tryz.func171 (by kernel_rfl) (by kernel_rfl) _) (fun w => o1 w) ?ha ?_) | (refine' xAk rfl rfl rfl (xAi Tryz.func183 (by kernel_rfl) (by kernel_rfl) _) (fun w => c1 w) ?ha ?_) | (refine' xAk rfl rfl rfl (xAi Tryz.func183 (by kernel_rfl) (by kernel_rfl) _) (fun w => c2 w) ?ha ?_) | (refine' xAk rfl rfl rfl (xAi Tryz.func183 (by kernel_rfl) (by kernel_rfl) _) (fun w => c3 w) ?ha ?_)); try (case ha => simp only [kP, kQ, kA, kB]; try rfl))
  refine xAo (hK _ _ ?_)
  clear hK K
  refine xAr (fun Q hQ => ?_)
  try simp only [List.nil_append, List.cons_append]
  repeat ((fail); (case hk => intro p hp; first | exact absurd hp List.not_mem_nil | (obtain rfl := List.mem_singleton.1 hp; repeat (first | exact List.Mem.head _ | apply mT))); (case ha => simp only [kP, kQ, kA, kB]; try rfl))
  refine xAs (fun w hR => hQ _ _ ?_)
  clear hQ Q
  go_wp2_with (first | (refine' aEq hR ?_) | (refine' aGq hR ?_) | (refine' aFq hR ?_; clear hR; intro w hR) | (go_at_call 207; refine (hd _).mono ?_; rintro e w ⟨rfl, hb⟩; replace hR := hR.call hb; clear hb))
  (refine' bodyPost_ret (xAh Tryz.results205 rfl (hR.loadAll (P := Tryz.prog) (ty := 24) ?hm ?hn)) rfl ⟨?_, hR.below⟩; (case hm => first | with_reducible assumption | repeat (first | exact .head _ | apply mT)); (case hn => first | rfl | simp))
  rfl
 ·rw [if_neg ok, if_neg ok]
  have hc : decide (cmpN m n1 ≤ 0) = true ∨ (decide (cmpN m n1 ≤ 0) = false ∧ decide (0 ≤ cmpN a m) = true) ∨ (decide (cmpN m n1 ≤ 0) = false ∧ decide (0 ≤ cmpN a m) = false ∧ decide (0 ≤ cmpN b m) = true) := by
   simp only [decide_eq_true_iff, decide_eq_false_iff_not]
   rw [k1, k2, k3]
   unfold okM at ok
   omega
  generalize cmpN m n1 = x1 at *
  generalize cmpN a m = x2 at *
  generalize cmpN b m = x3 at *
  clear k1 k2 k3 ok L1 h1
  have hR := Rep.init w
  rcases hc with j1 | ⟨j1, j2⟩ | ⟨j1, j2, j3⟩
  all_goals
   go_enter Tryz.func205, Tryz.ntmps205
   go_wp2_with (first | (refine' aAq hR ?_; clear hR; intro blk w hR) | (refine' aBq hR ?_; clear hR; intro blk w hR))
   refine xAd hR [0, 0, 0, 0, 0, 0, 0, 0, 0, 0, 0, 0, 0, 0, 0, 0] [] xBd (by kernel_rfl) rfl rfl (fun K hK => ?_)
   clear hR
   repeat ((first | (refine' xAj (by decide) rfl (.inl rfl) rfl ?ha ?_) | (refine' aIq ?ha ?_) | ((refine' xAm (by decide) rfl rfl rfl rfl (fun w => ?hq) ?ha ?_); (case hq => go_simp; try rfl)) | (refine' xBh (by decide) rfl rfl rfl rfl ?ha ?_) | (refine' xCe (by decide) rfl ?ha ?_) | (refine' xAk rfl rfl rfl (xAi Tryz.func171 (by kernel_rfl) (by kernel_rfl) _) (fun w => o1 w) ?ha ?_) | (refine' xAk rfl rfl rfl (xAi Tryz.func183 (by kernel_rfl) (by kernel_rfl) _) (fun w => c1 w) ?ha ?_) | (refine' xAk rfl rfl rfl (xAi Tryz.func183 (by kernel_rfl) (by kernel_rfl) _) (fun w => c2 w) ?ha ?_) | (refine' xAk rfl rfl rfl (xAi Tryz.func183 (by kernel_rfl) (by kernel_rfl) _) (fun w => c3 w) ?ha ?_)); try (case ha => simp only [kP, kQ, kA, kB]; try rfl))
   refine xAo (hK _ _ ?_)
   clear hK K
   refine xAr (fun Q hQ => ?_)
   try simp only [List.nil_append, List.cons_append]
   repeat ((fail); (case hk => intro p hp; first | exact absurd hp List.not_mem_nil | (obtain rfl := List.mem_singleton.1 hp; repeat (first | exact List.Mem.head _ | apply mT))); (case ha => simp only [kP, kQ, kA, kB]; try rfl))
   refine xAs (fun w hR => hQ _ _ ?_)
   clear hQ Q
   go_wp2_with (refine' aFq hR ?_; clear hR; intro w hR)
   (refine' bodyPost_ret (xAh Tryz.results205 rfl (hR.loadAll (P := Tryz.prog) (ty := 24) ?hm ?hn)) rfl ⟨?_, hR.below⟩; (case hm => first | with_reducible assumption | repeat (first | exact .head _ | apply mT)); (case hn => first | rfl | simp))
   rw [xBe]
   rfl
theorem mods_mul (a b m : Nat) (ha : a < B) (hb : b < B) (hm : m < B) (w : World) : Calls Tryz.prog 177 #[num a, num b, num m] w fun e w' =>
  e = .returned (.tuple #[num (if okM a b m then mulN a b m else 0), .int .i64 (if okM a b m then 0 else 1)]) ∧ Below w.heap.size w w' := by
 have hd := fun w => deed_mul a b m ha hb hm w
 generalize (if okM a b m then mulN a b m else 0) = res at *
 generalize (if okM a b m then (0 : Int) else 1) = er at *
 have hR := Rep.init w
 go_enter Tryz.func177, Tryz.ntmps177
 go_wp2_with (first | (refine' aAq hR ?_; clear hR; intro blk w hR) | (refine' aBq hR ?_; clear hR; intro blk w hR) | (refine' aEq hR ?_) | (refine' aFq hR ?_; clear hR; intro w hR) | (go_at_call 205; refine (hd _).mono ?_; rintro e w ⟨rfl, hb⟩; replace hR := hR.call hb; clear hb))
 (refine' bodyPost_ret (xAh Tryz.results177 rfl (hR.loadAll (P := Tryz.prog) (ty := 24) ?hm ?hn)) rfl ⟨?_, hR.below⟩; (case hm => first | with_reducible assumption | repeat (first | exact .head _ | apply mT)); (case hn => first | rfl | simp))
 rfl
end
section
section
variable {P : Program} {ops : Array Oper} {B0 : Nat} {w0 : World} {Kp : List (Nat × Obj)} {Q : Exit → Act → World → Prop}
theorem Rep.perm {L L2 : List (Nat × Obj)} (h : L.Perm L2) : Rep B0 w0 L = Rep B0 w0 L2 := by
 have one : ∀ {L L2 : List (Nat × Obj)} w, L.Perm L2 → Rep B0 w0 L w → Rep B0 w0 L2 w := fun w h r =>
  ⟨r.below, r.le, fun p hp => r.own p (h.mem_iff.2 hp), (h.map (·.1)).nodup_iff.1 r.uniq⟩
 funext w
 exact propext ⟨one w h, one w h.symm⟩
def RepEq (B0 : Nat) (w0 : World) (L L2 : List (Nat × Obj)) : Prop := ∀ M, Rep B0 w0 (M ++ L) = Rep B0 w0 (M ++ L2)
theorem RepEq.refl (L : List (Nat × Obj)) : RepEq B0 w0 L L := fun _ => rfl
theorem RepEq.trans {L L2 L3 : List (Nat × Obj)} (h : RepEq B0 w0 L L2) (k : RepEq B0 w0 L2 L3) : RepEq B0 w0 L L3 := fun M => (h M).trans (k M)
theorem RepEq.cons {L L2 : List (Nat × Obj)} (p : Nat × Obj) (h : RepEq B0 w0 L L2) : RepEq B0 w0 (p :: L) (p :: L2) := fun M => by
 have := h (M ++ [p])
 simpa using this
theorem RepEq.swap (p q : Nat × Obj) (L : List (Nat × Obj)) : RepEq B0 w0 (p :: q :: L) (q :: p :: L) := fun M => Rep.perm (List.Perm.append_left M (List.Perm.swap q p L))
theorem wpAnyI_E : ∀ (f : Nat) (listed : Array Bool) (a : Act) (L L2 : List (Nat × Obj)), RepEq B0 w0 L L2 → xGe P ops B0 w0 Kp Q f listed a L → xGe P ops B0 w0 Kp Q f listed a L2
  | 0, _, _, L, L2, he, h => ⟨h.1, fun w hw => h.2 w (by have := he []; simp only [List.nil_append] at this; rw [this]; exact hw)⟩
  | f + 1, listed, a, L, L2, he, h => by
    have e0 := he []
    simp only [List.nil_append] at e0
    refine ⟨fun h0 w hw => h.1 h0 w (by rw [e0]; exact hw), fun i hi => ?_⟩
    obtain ⟨o, ho, ⟨ob, hal, hn⟩ | ⟨v, L', hy, hk, hn⟩⟩ := h.2 i hi
    · exact ⟨o, ho, .inl ⟨ob, hal, fun b => wpAnyI_E f _ _ _ _ (he.cons _) (hn b)⟩⟩
    · exact ⟨o, ho, .inr ⟨v, L', by rw [← e0]; exact hy, hk, hn⟩⟩
structure Al where
 i : Nat
 d : Tmp
 o : Oper
 z : Obj
def exts : List Al → List Nat → List (Nat × Obj) → List (Nat × Obj)
 | x :: R, b :: bs, L => exts R bs ((b, x.z) :: L)
 | _, _, L => L
def putsA : List Al → List Nat → Act → Act
 | x :: R, b :: bs, a => putsA R bs (a.put (some x.d) (ptrTo b))
 | _, _, a => a
def outs : List Nat → List (Nat × List Nat)
 | [] => []
 | x :: r => (x, r) :: (outs r).map fun p => (p.1, x :: p.2)
theorem mem_outs (x : Nat) (r2 : List Nat) : ∀ r1 : List Nat, (x, r1 ++ r2) ∈ outs (r1 ++ x :: r2)
 | [] => .head _
 | y :: r1 => .tail _ (List.mem_map.2 ⟨(x, r1 ++ r2), mem_outs x r2 r1, rfl⟩)
def okB (ops : Array Oper) : Nat → List Nat → Array Bool → Bool
 | 0, R, _ => R.isEmpty
 | f + 1, R, listed => R.isEmpty || (decide (Region.ready .any ops listed = R) && (outs R).all fun p => okB ops f p.2 (listed.setIfInBounds p.1 true))
def AllAl (P : Program) (ops : Array Oper) : List Al → Prop
 | [] => True
 | x :: R => (ops[x.i]? = some x.o ∧ x.o.dst = some x.d ∧ xGd P x.o x.z) ∧ AllAl P ops R
theorem AllAl.nil : AllAl P ops [] := trivial
theorem AllAl.cons {i : Nat} {d : Tmp} {o : Oper} {z : Obj} {R : List Al} (h1 : ops[i]? = some o) (h2 : o.dst = some d) (h3 : xGd P o z) (h : AllAl P ops R) : AllAl P ops (⟨i, d, o, z⟩ :: R) := ⟨⟨h1, h2, h3⟩, h⟩
theorem AllAl.mem {R : List Al} (h : AllAl P ops R) : ∀ x ∈ R, ops[x.i]? = some x.o ∧ x.o.dst = some x.d ∧ xGd P x.o x.z := by
 induction R with
 | nil => intro x hx; cases hx
 | cons y R ih =>
  intro x hx
  cases hx with
  | head => exact h.1
  | tail _ hx => exact ih h.2 x hx
theorem AllAl.of {R : List Al} (h : ∀ x ∈ R, ops[x.i]? = some x.o ∧ x.o.dst = some x.d ∧ xGd P x.o x.z) : AllAl P ops R := by
 induction R with
 | nil => exact trivial
 | cons x R ih => exact ⟨h x (.head _), ih fun y hy => h y (.tail _ hy)⟩
theorem exts_E : ∀ (R : List Al) (bs : List Nat) {L L2 : List (Nat × Obj)}, RepEq B0 w0 L L2 → RepEq B0 w0 (exts R bs L) (exts R bs L2)
 | [], _, _, _, h => h
 | _ :: _, [], _, _, h => h
 | x :: R, b :: bs, _, _, h => exts_E R bs (h.cons _)
theorem exts_mid (x : Al) (b : Nat) (R2 : List Al) (bs2 : List Nat) : ∀ (R1 : List Al) (bs1 : List Nat) (L : List (Nat × Obj)), bs1.length = R1.length → RepEq B0 w0 (exts (R1 ++ x :: R2) (bs1 ++ b :: bs2) L) (exts (R1 ++ R2) (bs1 ++ bs2) ((b, x.z) :: L))
  | [], [], L, _ => RepEq.refl _
  | y :: R1, c :: bs1, L, h => by
    have h' : bs1.length = R1.length := by simpa using h
    exact (exts_mid x b R2 bs2 R1 bs1 ((c, y.z) :: L) h').trans (exts_E _ _ (RepEq.swap _ _ _))
theorem putsA_mid (x : Al) (b : Nat) (R2 : List Al) (bs2 : List Nat) : ∀ (R1 : List Al) (bs1 : List Nat) (a : Act), bs1.length = R1.length → (∀ y ∈ R1, y.d ≠ x.d) → putsA (R1 ++ x :: R2) (bs1 ++ b :: bs2) a = putsA (R1 ++ R2) (bs1 ++ bs2) (a.put (some x.d) (ptrTo b))
  | [], [], a, _, _ => rfl
  | y :: R1, c :: bs1, a, h, hd => by
    have h' : bs1.length = R1.length := by simpa using h
    show putsA (R1 ++ x :: R2) (bs1 ++ b :: bs2) (a.put (some y.d) (ptrTo c)) = putsA (R1 ++ R2) (bs1 ++ bs2) ((a.put (some x.d) (ptrTo b)).put (some y.d) (ptrTo c))
    rw [putsA_mid x b R2 bs2 R1 bs1 _ h' (fun z hz => hd z (.tail _ hz)), Act.put_comm a _ _ (fun d h1 h2 => hd y (.head _) (by rw [Option.some.inj h1, Option.some.inj h2]))]
theorem setAll_mid (x : Nat) (r2 : List Nat) : ∀ (r1 : List Nat) (listed : Array Bool), xCp (r1 ++ x :: r2) listed = xCp (r1 ++ r2) (listed.setIfInBounds x true)
  | [], _ => rfl
  | y :: r1, listed => by
    show xCp (r1 ++ x :: r2) (listed.setIfInBounds y true) = xCp (r1 ++ r2) ((listed.setIfInBounds x true).setIfInBounds y true)
    rw [setAll_mid x r2 r1]
    by_cases h : x = y
    · subst h; rfl
    · rw [Array.setIfInBounds_comm _ _ h]
theorem allocs_all {n : Nat} : ∀ (k : Nat) (R : List Al) (listed : Array Bool) (a : Act) (L : List (Nat × Obj)), R.length = k → okB ops k (R.map (·.i)) listed = true → AllAl P ops R → (R.map (·.d)).Nodup →
    (∀ bs, bs.length = R.length → xGe P ops B0 w0 Kp Q n (xCp (R.map (·.i)) listed) (putsA R bs a) (exts R bs L)) → xGe P ops B0 w0 Kp Q (k + n) listed a L
  | 0, R, listed, a, L, hk, _, _, _, T => by
    obtain rfl : R = [] := List.length_eq_zero_iff.1 hk
    rw [Nat.zero_add]
    exact T [] rfl
  | k + 1, R, listed, a, L, hk, hB, hA, hd, T => by
    have hne : (R.map (·.i)).isEmpty = false := by
      cases R with
      | nil => simp at hk
      | cons x r => rfl
    unfold okB at hB
    rw [hne, Bool.false_or, Bool.and_eq_true, decide_eq_true_eq] at hB
    rw [show k + 1 + n = (k + n) + 1 by omega]
    refine ⟨fun h0 => (by rw [h0] at hB; rw [← hB.1] at hne; cases hne), fun i hi => ?_⟩
    rw [hB.1] at hi
    obtain ⟨x, hx, rfl⟩ := List.mem_map.1 hi
    obtain ⟨R1, R2, rfl⟩ := List.append_of_mem hx
    obtain ⟨h1, h2, h3⟩ := hA.mem x hx
    refine ⟨x.o, h1, .inl ⟨x.z, h3, fun b => ?_⟩⟩
    rw [h2]
    rw [List.map_append, List.map_cons] at hd hB
    have hd2 := (List.nodup_append.1 hd)
    refine allocs_all k (R1 ++ R2) _ _ _ (by simp at hk ⊢; omega) ?_ (AllAl.of fun y hy => hA.mem y (by
      rcases List.mem_append.1 hy with hy | hy
      · exact List.mem_append.2 (.inl hy)
      · exact List.mem_append.2 (.inr (.tail _ hy)))) ?_ ?_
    · have := List.all_eq_true.1 hB.2 _ (mem_outs x.i (R2.map (·.i)) (R1.map (·.i)))
      rw [List.map_append]
      exact this
    · rw [List.map_append]
      exact List.Nodup.sublist (List.Sublist.append_left (List.sublist_cons_self _ _) _) hd
    · intro bs hbs
      have e : bs = bs.take R1.length ++ bs.drop R1.length := (List.take_append_drop _ _).symm
      have l1 : (bs.take R1.length).length = R1.length := by simp at hbs ⊢; omega
      have hT := T (bs.take R1.length ++ b :: bs.drop R1.length) (by simp at hbs ⊢; omega)
      have hdd : ∀ y ∈ R1, y.d ≠ x.d := fun y hy => hd2.2.2 _ (List.mem_map.2 ⟨y, hy, rfl⟩) _ (.head _)
      rw [List.map_append, List.map_cons, setAll_mid, ← List.map_append, putsA_mid x b R2 _ R1 _ a l1 hdd] at hT
      have hT2 := wpAnyI_E _ _ _ _ _ (exts_mid x b R2 _ R1 _ L l1) hT
      rw [← e] at hT2
      exact hT2
def allocsOK (ops : Array Oper) (ord : List (Nat × Bool)) (R : List Nat) (ds : List Nat) (r : List Nat) : Bool :=
 let x := xCp (ord.map (·.1)) (Array.replicate ops.size false)
 Region.noSelect ops && ordB ops (ord.map (·.1)) (Array.replicate ops.size false) && ord.all (·.2) && okB ops R.length R x && seqB ops r (xCp R x) && xGi ds && r.all (fun t => decide (t < ops.size))
theorem xIv {id : Nat} {w : World} {l : List Oper} {L : List (Nat × Obj)} {a : Act} (hR : Rep B0 w0 L w) (ts : List Nat) (R : List Al) (r : List Nat) (hm : P.follows .mixedOrders = true) (hB : allocsOK l.toArray (xBi 0 ts) (R.map (·.i)) (R.map (·.d)) r = true) (htl : xCt 0 ts = R.map (·.i) ++ r)
  (hlen : ts.length = l.length) (hlen2 : (xBi 0 ts).length + (R.length + r.length) = l.length) (hA : AllAl P l.toArray R)
  (h : ∀ K : List Oper → Act → Prop, (∀ r' a', (∀ bs, bs.length = R.length → xFe P l.toArray (xDa B0 w0 L) Q r' (Rep B0 w0 (exts R bs L)) (putsA R bs a')) → K (R.map (·.o) ++ r') a') → xBn P l.toArray (xDa B0 w0 L) (Rep B0 w0 L) K ts l [] a) : (Code.region id l.toArray true).wp P Q a w := by
 simp only [allocsOK, Bool.and_eq_true] at hB
 obtain ⟨⟨⟨⟨⟨⟨h1, h2⟩, h3⟩, h4⟩, h5⟩, h6⟩, h7⟩ := hB
 refine wp_region_any hm ?_
 have hlt : ∀ t ∈ r, t < l.toArray.size := fun t ht => by simpa using List.all_eq_true.1 h7 t ht
 have hH := h (fun tl a' => ∃ r', tl = R.map (·.o) ++ r' ∧ ∀ bs, bs.length = R.length → xFe P l.toArray (xDa B0 w0 L) Q r' (Rep B0 w0 (exts R bs L)) (putsA R bs a')) (fun r' a' h' => ⟨r', rfl, h'⟩)
 have fm : ∀ R : List Al, AllAl P l.toArray R → ∀ r : List Nat, (R.map (·.i) ++ r).filterMap (l.toArray[·]?) = R.map (·.o) ++ r.filterMap (l.toArray[·]?) := by
  intro R
  induction R with
  | nil => intro _ r; rfl
  | cons x R ih =>
   intro hA r
   rw [List.map_cons, List.cons_append, List.filterMap_cons_some hA.1.1, ih hA.2 r]
   rfl
 have hW := xCu (P := P) (ops := l.toArray) (I := xDa B0 w0 L) (C := Rep B0 w0 L) (K := fun a' => ∀ bs, bs.length = R.length → xFe P l.toArray (xDa B0 w0 L) Q (r.filterMap (l.toArray[·]?)) (Rep B0 w0 (exts R bs L)) (putsA R bs a')) ts l [] 0 a hlen (fun j => by simp) (fun a' ha' => by
  obtain ⟨r', e, h'⟩ := ha'
  rw [htl, List.nil_append, fm R hA] at e
  obtain rfl := List.append_cancel_left e
  exact h') hH
 have key := xHy (Q := Q) (n := R.length + r.length) h1 (fun p hp => hp) (xBi 0 ts) (Array.replicate l.toArray.size false) a (fun p hp => by simpa using List.all_eq_true.1 h3 p hp) h2 hW (fun a' ha' =>
  allocs_all R.length R _ a' L rfl (by simpa using h4) hA (xEt _ h6) fun bs hbs => tailI r _ _ _ hlt h5 (ha' bs hbs))
 have := xFj _ _ _ _ _ hR.drew key
 rw [hlen2] at this
 simpa using this
end
theorem len4 {bs : List Nat} (h : bs.length = 4) : ∃ b1 b2 b3 b4, bs = [b1, b2, b3, b4] := by
 match bs, h with
 | [b1, b2, b3, b4], _ => exact ⟨b1, b2, b3, b4, rfl⟩
end
end Go.Proofs.YtaaahfjpnggkbaaGreatDoor
