import Derived.Test.YtaaahfjpnggkbaaGreatDoorHDA
import Derived.Test.YtaaahfjpnggkbaaGreatDoorHJ
set_option linter.unusedSimpArgs false
set_option linter.unusedVariables false
set_option maxRecDepth 100000
set_option maxHeartbeats 20000000
namespace Go.Proofs.YtaaahfjpnggkbaaGreatDoor
open Go.RowKit
attribute [local irreducible] Calls
instance rowT32 : RowT Tryz.prog 282 32 := .mk' (by kernel_rfl) (by kernel_rfl)
instance zeroT32 : xKf Tryz.prog 282 (u64s 32 fun _ => 0) := ⟨.agg (u64s 32 fun _ => 0).toArray, by rw [xEv]; kernel_rfl, rfl⟩
theorem mem_set {a b i k : Nat} (hi : i < 16) (hk : k < 16) {x : Nat} (hx : dig (accN a b i (k + 1)) (i + k) = x) : (u64s 32 (memN a b i k)).set (i + k) (.int .u64 (x : Int)) = u64s 32 (memN a b i (k + 1)) :=
 u64s_set (by rw [memN_set, hx]) fun j _ hj => memN_other a b i k j hj
theorem row_set {a b i : Nat} (hb : b < B) (hi : i < 16) {x : Nat} (hx : accN a b i 16 / 65536 ^ (i + 16) = x) : (u64s 32 (memN a b i 16)).set (i + 16) (.int .u64 (x : Int)) = u64s 32 (dig (rowN a b (i + 1))) :=
 u64s_set (by rw [row_top hb, hx]) fun j _ hj => row_other hb a i j hj
theorem refMul_any (a b : Nat) (ha : a < B) (hb : b < B) (w : World) : Calls Tryz.prog 233 #[num a, num b] w fun e w' =>
  e = .returned (.tuple #[num (a * b), num (a * b / B)]) ∧ Below w.heap.size w w' := by
 have hR := Rep.init w
 have oa := xEg 16 (dig a)
 have ob := xEg 16 (dig b)
 go_enter Tryz.func233, Tryz.ntmps233
 go_wp2_with (first | (refine' aAq hR ?_; clear hR; intro blk w hR) | (refine' aBq hR ?_; clear hR; intro blk w hR) | (refine' aNq hR ?_) | (refine' aFq hR ?_; clear hR; intro w hR) | (go_at_call 198; refine (xCz a _).mono ?_; rintro e w ⟨rfl, hb⟩; replace hR := hR.call hb; clear hb) | (go_at_call 198; refine (xCz b _).mono ?_; rintro e w ⟨rfl, hb⟩; replace hR := hR.call hb; clear hb))
 rename_i ba _ bb _ r1 _ r2 _ _ bx _ _ _ by' _ _ _ _
 clear oa ob
 refine' xBm (false :: false :: false :: false :: false :: false :: false :: false :: false :: false :: true :: true :: true :: false :: false :: false :: false :: true :: true :: true :: true :: true :: true :: true :: true :: true :: true :: true :: true :: true :: true :: true :: true :: true :: true :: true :: true :: true :: true :: true :: true :: true :: true :: true :: true :: true :: true :: true :: true :: true :: true :: true :: false :: false :: false :: false :: []) (fun j l => l.set 9 (.int .i64 ((16 : Int) - (j : Int)))) (fun j => [(blk, .cells (u64s 32 (dig (rowN a b (16 - j)))).toArray 282), (by', .cells (u64s 16 (dig b)).toArray 253), (bx, .cells (u64s 16 (dig a)).toArray 253), (r2, .cells (nl 0).toArray 24), (r1, .cells (nl 0).toArray 24), (bb, .cells (nl b).toArray 24), (ba, .cells (nl a).toArray 24)]) 16 ?h0 ?hR ?hs ?he
 case hR =>
  have e : u64s 32 (dig (rowN a b (16 - 16))) = u64s 32 fun _ => 0 := xIe fun j _ => by rw [Nat.sub_self, rowN_zero, xCf, Nat.zero_div]
  rw [← xDf, e]
  exact hR
 case h0 => exact xAf rfl rfl rfl
 case hs =>
  clear hR
  intro j tm w hj ht hR K hK
  repeat (first | (obtain ⟨x, tm', e, ht'⟩ := xAc ht; clear ht; subst e; have ht := ht'; clear ht') | (obtain ⟨tm', e, ht'⟩ := xAa ht; clear ht; subst e; have ht := ht'; clear ht'))
  obtain rfl := xAe ht
  clear ht
  obtain ⟨i, hi⟩ : ∃ i, 16 - (j + 1) = i := ⟨_, rfl⟩
  have e1 : (16 : Int) - ((j + 1 : Nat) : Int) = (i : Int) := by omega
  have e2 : (16 : Int) - (j : Int) = (i : Int) + 1 := by omega
  have e3 : 16 - j = i + 1 := by omega
  rw [hi] at hR
  simp only [e2, e3] at hK
  rw [e1]
  have i16 : i < 16 := by omega
  clear e1 e2 e3 hi hj
  have g0 : 0 ≤ (i : Int) := by omega
  have g1 : (i : Int) < 16 := by omega
  go_wp2_with (fail)
  refine' xBm (false :: false :: false :: false :: false :: false :: false :: false :: false :: false :: false :: false :: true :: false :: false :: false :: false :: false :: false :: false :: false :: true :: true :: true :: true :: true :: true :: true :: true :: true :: true :: true :: true :: true :: true :: true :: true :: true :: true :: true :: true :: true :: true :: true :: true :: true :: true :: true :: false :: false :: false :: false :: false :: false :: false :: false :: []) (fun j l => (l.set 10 (.int .u64 ((accN a b i (16 - j) / 65536 ^ (i + (16 - j)) : Nat) : Int))).set 11 (.int .i64 ((16 : Int) - (j : Int)))) (fun j => [(blk, .cells (u64s 32 (memN a b i (16 - j))).toArray 282), (by', .cells (u64s 16 (dig b)).toArray 253), (bx, .cells (u64s 16 (dig a)).toArray 253), (r2, .cells (nl 0).toArray 24), (r1, .cells (nl 0).toArray 24), (bb, .cells (nl b).toArray 24), (ba, .cells (nl a).toArray 24)]) 16 ?h02 ?hR2 ?hs2 ?he2
  case hR2 =>
   have e : u64s 32 (memN a b i (16 - 16)) = u64s 32 (dig (rowN a b i)) := xIe fun j _ => memN_start a b i j
   show Rep _ _ ((_, .cells (u64s 32 (memN a b i (16 - 16))).toArray _) :: _) _
   rw [e]
   exact hR
  case h02 =>
   have e : accN a b i (16 - 16) / 65536 ^ (i + (16 - 16)) = 0 := by
    rw [Nat.sub_self, accN_zero, Nat.add_zero, Nat.div_eq_of_lt (Nat.mod_lt _ (pow_p i))]
   simp only [e]
   exact xAf rfl rfl rfl
  case hs2 =>
   clear hR hK
   intro j tm w hj ht hR K hK
   repeat (first | (obtain ⟨x, tm', e, ht'⟩ := xAc ht; clear ht; subst e; have ht := ht'; clear ht') | (obtain ⟨tm', e, ht'⟩ := xAa ht; clear ht; subst e; have ht := ht'; clear ht'))
   obtain rfl := xAe ht
   clear ht
   obtain ⟨q, hq⟩ : ∃ q, 16 - (j + 1) = q := ⟨_, rfl⟩
   have e1 : (16 : Int) - ((j + 1 : Nat) : Int) = (q : Int) := by omega
   have e2 : (16 : Int) - (j : Int) = (q : Int) + 1 := by omega
   have e3 : 16 - j = q + 1 := by omega
   rw [hq] at hR
   simp only [e2, e3] at hK
   rw [e1, hq]
   have q16 : q < 16 := by omega
   clear e1 e2 e3 hq hj
   obtain ⟨m1, m2, m3, m4⟩ := mul_digs a b i q
   have hset := mem_set (a := a) (b := b) i16 q16 rfl
   have dD := xEb (n := 32) (w := memN a b i q) (i := i + q) (by omega)
   rw [memN_at] at dD
   have dX := xEb (w := dig a) i16
   have dY := xEb (w := dig b) q16
   have lx := xFy (rowN a b i) (i + q)
   have ly := xFy a i
   have lz := xFy b q
   rw [← m4] at hset
   rw [← m3] at hK
   clear m3 m4
   generalize accN a b i (q + 1) / 65536 ^ (i + q) = S at *
   generalize accN a b i q / 65536 ^ (i + q) = c at *
   generalize dig (rowN a b i) (i + q) = x at *
   generalize dig a i = y at *
   generalize dig b q = z at *
   have lp : y * z ≤ 65535 * 65535 := Nat.mul_le_mul (by omega) (by omega)
   have ep : IntKind.u64.wrap ((y : Int) * (z : Int)) = ((y * z : Nat) : Int) := by rw [← Int.natCast_mul, IntKind.wrap_u64]; omega
   generalize y * z = p at *
   obtain ⟨t, ht⟩ : ∃ t, x + p = t := ⟨_, rfl⟩
   rw [ht] at m1
   have e1 : IntKind.u64.wrap ((x : Int) + (p : Int)) = (t : Int) := by rw [IntKind.wrap_u64]; omega
   have e2 : IntKind.u64.wrap ((t : Int) + (c : Int)) = (S : Int) := by rw [IntKind.wrap_u64]; omega
   have e3 : (S : Int).tmod 65536 = ((S % 65536 : Nat) : Int) := by rw [Int.tmod_eq_emod_of_nonneg (by omega)]; omega
   have e4 : (S : Int) / 65536 = ((S / 65536 : Nat) : Int) := by omega
   have e5 : IntKind.u64.wrap ((S / 65536 : Nat) : Int) = ((S / 65536 : Nat) : Int) := by rw [IntKind.wrap_u64]; omega
   have e6 : 0 ≤ (S : Int) := by omega
   generalize S % 65536 = d at *
   generalize S / 65536 = c' at *
   obtain ⟨P, hP⟩ : ∃ P, i + q = P := ⟨_, rfl⟩
   rw [hP] at hset dD
   have e7 : IntKind.i64.wrap ((i : Int) + (q : Int)) = (P : Int) := by rw [IntKind.wrap_i64]; omega
   have e8 : 0 ≤ (P : Int) := by omega
   have e9 : (P : Int) < 32 := by omega
   have e10 : P < 32 := by omega
   have f0 : 0 ≤ (q : Int) := by omega
   have f1 : (q : Int) < 16 := by omega
   clear ht hP m1 m2 lx ly lz lp
   go_wp2_with (fail)
   refine xAd hR [0, 0, 0, 0, 0, 0, 0, 0, 0, 0, 0, 0, 0, 0, 0, 2] [] xBd (by kernel_rfl) rfl rfl (fun K hK => ?_)
   clear hR
   repeat ((first | (refine xAp ?_) | (refine' xAj (by decide) rfl (.inl rfl) rfl ?ha ?_) | (refine' aXq ?ha ?_) | ((first | refine' xAg (by decide) rfl rfl rfl rfl (fun w => ?hq) ?ha ?_ | refine' xAm (by decide) rfl rfl rfl rfl (fun w => ?hq) ?ha ?_); (case hq => go_simp; try rfl))); try (case ha => simp only [kP, kQ, kA, kB]; try rfl))
   refine xAo (hK _ _ ?_)
   clear hK K
   refine xAr (fun Q hQ => ?_)
   try simp only [List.nil_append, List.cons_append]
   repeat ((refine' xBf rfl (.inr rfl) rfl ?hk ?ha ?_); (case hk => intro p hp; first | exact absurd hp List.not_mem_nil | (obtain rfl := List.mem_singleton.1 hp; repeat (first | exact List.Mem.head _ | with_reducible assumption | apply mC))); (case ha => simp only [kP, kQ, kA, kB]; try rfl))
   refine xAs (fun w hR => hQ _ _ ?_)
   clear hQ Q
   go_wp2_with (refine' aHq hR ?_; clear hR; intro w hR)
   exact hK.out _ _ (xAf rfl rfl rfl) hR
  case he2 =>
   clear hR
   intro tm w ht hR K2
   simp only [Int.natCast_zero, Int.sub_zero] at ht
   simp only [Nat.sub_zero] at hR ht
   repeat (first | (obtain ⟨x, tm', e, ht'⟩ := xAc ht; clear ht; subst e; have ht := ht'; clear ht') | (obtain ⟨tm', e, ht'⟩ := xAa ht; clear ht; subst e; have ht := ht'; clear ht'))
   obtain rfl := xAe ht
   clear ht
   have hset := row_set (a := a) hb i16 rfl
   generalize accN a b i 16 / 65536 ^ (i + 16) = c at *
   obtain ⟨P, hP⟩ : ∃ P, i + 16 = P := ⟨_, rfl⟩
   rw [hP] at hset
   have e7 : IntKind.i64.wrap ((i : Int) + 16) = (P : Int) := by rw [IntKind.wrap_i64]; omega
   have e8 : 0 ≤ (P : Int) := by omega
   have e9 : (P : Int) < 32 := by omega
   have e10 : P < 32 := by omega
   clear hP
   go_wp2_with (refine' aHq hR ?_; clear hR; intro w hR)
   exact hK.out _ _ (xAf rfl rfl rfl) hR
 case he =>
  clear hR
  intro tm w ht hR K
  simp only [Int.natCast_zero, Int.sub_zero] at ht
  simp only [Nat.sub_zero] at hR ht
  repeat (first | (obtain ⟨x, tm', e, ht'⟩ := xAc ht; clear ht; subst e; have ht := ht'; clear ht') | (obtain ⟨tm', e, ht'⟩ := xAa ht; clear ht; subst e; have ht := ht'; clear ht'))
  obtain rfl := xAe ht
  clear ht
  rw [rowN_16 ha] at hR
  have h1 : ∀ j, j < 16 → (u64s 32 (dig (a * b)))[0 + j]? = some (.int .u64 (dig (a * b) j : Int)) := fun j hj => by rw [Nat.zero_add]; exact xEb (by omega)
  have h2 : ∀ j, j < 16 → (u64s 32 (dig (a * b)))[16 + j]? = some (.int .u64 (dig (a * b / B) j : Int)) := fun j hj => by rw [xEb (by omega), dig_half]
  go_wp2_with (fail)
  refine xAd hR [0, 0, 0, 0, 2, 2] [] xBd (by kernel_rfl) rfl rfl (fun K hK => ?_)
  clear hR
  repeat ((first | (refine xAp ?_) | ((refine' xCq (by decide) rfl rfl rfl rfl rfl rfl (fun w => ?hq) ?ha ?_); (case hq => go_simp; try rfl)) | (refine' xEu rfl rfl rfl (xAi Tryz.func199 (by kernel_rfl) (by kernel_rfl) _) (fun w hw => xKh (a * b) blk 0 32 _ _ (List.Mem.head _) h1 hw) ?ha ?_) | (refine' xEu rfl rfl rfl (xAi Tryz.func199 (by kernel_rfl) (by kernel_rfl) _) (fun w hw => xKh (a * b / B) blk 16 16 _ _ (List.Mem.head _) h2 hw) ?ha ?_)); try (case ha => simp only [kP, kQ, kA, kB]; try rfl))
  refine xAo (hK _ _ ?_)
  clear hK K
  refine xAr (fun Q hQ => ?_)
  try simp only [List.nil_append, List.cons_append]
  repeat ((refine' aKq ?hk ?ha ?_); (case hk => intro p hp; first | exact absurd hp List.not_mem_nil | (obtain rfl := List.mem_singleton.1 hp; repeat (first | exact List.Mem.head _ | with_reducible assumption | apply mC))); (case ha => simp only [kP, kQ, kA, kB]; try rfl))
  refine xAs (fun w hR => hQ _ _ ?_)
  clear hQ Q
  go_wp2_with (fail)
  (refine' bodyPost_ret (xEn Tryz.results233 rfl (hR.loadAll (P := Tryz.prog) (ty := 24) ?hm ?hn) rfl (hR.loadAll (P := Tryz.prog) (ty := 24) ?hm2 ?hn2)) rfl ⟨?_, hR.below⟩; (case hm => first | with_reducible assumption | repeat (first | exact .head _ | with_reducible assumption | apply mC)); (case hn => first | rfl | simp); (case hm2 => first | with_reducible assumption | repeat (first | exact .head _ | with_reducible assumption | apply mC)); (case hn2 => first | rfl | simp))
  rfl
end Go.Proofs.YtaaahfjpnggkbaaGreatDoor
