/- The contract of balefireref02.Mul. -/
import Derived.Test.YtdagdfcbnhfdkaaMT
import Derived.Test.YtdagdfcbnhfdkaaMJ
import Derived.Test.YtdagdfcbnhfdkaaMG
import Derived.Test.YtdagdfcbnhfdkaaMRefWide
import Derived.Test.YtdagdfcbnhfdkaaMM
set_option linter.unusedVariables false
set_option linter.unusedSimpArgs false
namespace Go.Proofs.Ytdagdfcbnhfdkaa
open Go.RowKit
attribute [local irreducible] Calls
instance rowT32 : RowT Try.prog 149 32 := .mk' (by kernel_rfl) (by kernel_rfl)
instance zeroT32 : ZeroT Try.prog 149 (u64s 32 fun _ => 0) := ⟨.agg (u64s 32 fun _ => 0).toArray, by rw [u64s_def]; kernel_rfl, rfl⟩
theorem mem_set {a b i k : Nat} (hi : i < 16) (hk : k < 16) {x : Nat} (hx : dig (accN a b i (k + 1)) (i + k) = x) : (u64s 32 (memN a b i k)).set (i + k) (.int .u64 (x : Int)) = u64s 32 (memN a b i (k + 1)) :=
  u64s_set (by rw [memN_set, hx]) fun j _ hj => memN_other a b i k j hj
theorem row_set {a b i : Nat} (hb : b < B) (hi : i < 16) {x : Nat} (hx : accN a b i 16 / 65536 ^ (i + 16) = x) : (u64s 32 (memN a b i 16)).set (i + 16) (.int .u64 (x : Int)) = u64s 32 (dig (rowN a b (i + 1))) :=
  u64s_set (by rw [row_top hb, hx]) fun j _ hj => row_other hb a i j hj
set_option maxRecDepth 100000 in
set_option maxHeartbeats 4000000 in
theorem refMul_any (a b : Nat) (ha : a < B) (hb : b < B) (w : World) : Calls Try.prog 132 #[num a, num b] w fun e w' =>
    e = .returned (.tuple #[num (a * b), num (a * b / B)]) ∧ Below w.heap.size w w' := by
  have hR := Rep.init w
  have oa := u64s_one 16 (dig a)
  have ob := u64s_one 16 (dig b)
  go_enter Try.func132, Try.ntmps132
  go_wp2_with (first | (refine' xAb hR rfl rfl rfl ?_; clear hR; intro blk w hR) | (refine' xAa hR rfl rfl inferInstance ?_; clear hR; intro blk w hR) | (refine' aFq hR rfl rfl rfl inferInstance ?_) | (refine' aGq hR rfl rfl rfl inferInstance ?_) | (refine' aHq hR rfl rfl rfl inferInstance ?_) | (refine' aDq hR rfl rfl rfl inferInstance rfl ?_; clear hR; intro w hR) | (refine' aEq hR rfl rfl rfl inferInstance rfl rfl ?_; clear hR; intro w hR) | (go_at_call 92; refine (xCh a _).mono ?_; rintro e w ⟨rfl, hb⟩; replace hR := hR.call hb; clear hb) | (go_at_call 92; refine (xCh b _).mono ?_; rintro e w ⟨rfl, hb⟩; replace hR := hR.call hb; clear hb))
  rename_i ba _ bb _ r1 _ r2 _ _ bx _ _ _ by' _ _ _ _
  clear oa ob
  refine' xBv (false :: false :: false :: false :: false :: false :: false :: false :: false :: false :: true :: true :: true :: false :: false :: false :: false :: true :: true :: true :: true :: true :: true :: true :: true :: true :: true :: true :: true :: true :: true :: true :: true :: true :: true :: true :: true :: true :: true :: true :: true :: true :: true :: true :: true :: true :: true :: true :: true :: true :: true :: true :: false :: false :: false :: false :: []) (fun j l => l.set 9 (.int .i64 ((16 : Int) - (j : Int)))) (fun j => [(blk, .cells (u64s 32 (dig (rowN a b (16 - j)))).toArray 149), (by', .cells (u64s 16 (dig b)).toArray 117), (bx, .cells (u64s 16 (dig a)).toArray 117), (r2, .cells (nl 0).toArray 24), (r1, .cells (nl 0).toArray 24), (bb, .cells (nl b).toArray 24), (ba, .cells (nl a).toArray 24)]) 16 ?h0 ?hR ?hs ?he
  case hR =>
    have e : u64s 32 (dig (rowN a b (16 - 16))) = u64s 32 fun _ => 0 := u64s_congr fun j _ => by rw [Nat.sub_self, rowN_zero, xCb, Nat.zero_div]
    rw [← nl_zero, e]
    exact hR
  case h0 => exact xBg rfl rfl rfl
  case hs =>
    clear hR
    intro j tm w hj ht hR K hK
    repeat (first | (obtain ⟨x, tm', e, ht'⟩ := xAu ht; clear ht; subst e; have ht := ht'; clear ht') | (obtain ⟨tm', e, ht'⟩ := xAj ht; clear ht; subst e; have ht := ht'; clear ht'))
    obtain rfl := xAy ht
    clear ht
    obtain ⟨i, hi⟩ : ∃ i, 16 - (j + 1) = i := ⟨_, rfl⟩
    have e1 : (16 : Int) - ((j + 1 : Nat) : Int) = (i : Int) := by omega
    have e2 : (16 : Int) - (j : Int) = (i : Int) + 1 := by omega
    have e3 : 16 - j = i + 1 := by omega
    rw [hi] at hR
    simp only [e2, e3] at hK
    rw [e1]
    have i16 : i < 16 := by omega
    clear e1 e2 e3 hi hj
    have g0 : 0 ≤ (i : Int) := by omega
    have g1 : (i : Int) < 16 := by omega
    go_wp2_with (first | (refine' xAb hR rfl rfl rfl ?_; clear hR; intro blk w hR) | (refine' xAa hR rfl rfl inferInstance ?_; clear hR; intro blk w hR) | (refine' aFq hR rfl rfl rfl inferInstance ?_) | (refine' aGq hR rfl rfl rfl inferInstance ?_) | (refine' aHq hR rfl rfl rfl inferInstance ?_) | (refine' aDq hR rfl rfl rfl inferInstance rfl ?_; clear hR; intro w hR) | (refine' aEq hR rfl rfl rfl inferInstance rfl rfl ?_; clear hR; intro w hR) | fail)
    refine' xBv (false :: false :: false :: false :: false :: false :: false :: false :: false :: false :: false :: false :: true :: false :: false :: false :: false :: false :: false :: false :: false :: true :: true :: true :: true :: true :: true :: true :: true :: true :: true :: true :: true :: true :: true :: true :: true :: true :: true :: true :: true :: true :: true :: true :: true :: true :: true :: true :: false :: false :: false :: false :: false :: false :: false :: false :: []) (fun j l => (l.set 10 (.int .u64 ((accN a b i (16 - j) / 65536 ^ (i + (16 - j)) : Nat) : Int))).set 11 (.int .i64 ((16 : Int) - (j : Int)))) (fun j => [(blk, .cells (u64s 32 (memN a b i (16 - j))).toArray 149), (by', .cells (u64s 16 (dig b)).toArray 117), (bx, .cells (u64s 16 (dig a)).toArray 117), (r2, .cells (nl 0).toArray 24), (r1, .cells (nl 0).toArray 24), (bb, .cells (nl b).toArray 24), (ba, .cells (nl a).toArray 24)]) 16 ?h02 ?hR2 ?hs2 ?he2
    case hR2 =>
      have e : u64s 32 (memN a b i (16 - 16)) = u64s 32 (dig (rowN a b i)) := u64s_congr fun j _ => memN_start a b i j
      show Rep _ _ ((_, .cells (u64s 32 (memN a b i (16 - 16))).toArray _) :: _) _
      rw [e]
      exact hR
    case h02 =>
      have e : accN a b i (16 - 16) / 65536 ^ (i + (16 - 16)) = 0 := by
        rw [Nat.sub_self, accN_zero, Nat.add_zero, Nat.div_eq_of_lt (Nat.mod_lt _ (pow_p i))]
      simp only [e]
      exact xBg rfl rfl rfl
    case hs2 =>
      clear hR hK
      intro j tm w hj ht hR K hK
      repeat (first | (obtain ⟨x, tm', e, ht'⟩ := xAu ht; clear ht; subst e; have ht := ht'; clear ht') | (obtain ⟨tm', e, ht'⟩ := xAj ht; clear ht; subst e; have ht := ht'; clear ht'))
      obtain rfl := xAy ht
      clear ht
      obtain ⟨q, hq⟩ : ∃ q, 16 - (j + 1) = q := ⟨_, rfl⟩
      have e1 : (16 : Int) - ((j + 1 : Nat) : Int) = (q : Int) := by omega
      have e2 : (16 : Int) - (j : Int) = (q : Int) + 1 := by omega
      have e3 : 16 - j = q + 1 := by omega
      rw [hq] at hR
      simp only [e2, e3] at hK
      rw [e1, hq]
      have q16 : q < 16 := by omega
      clear e1 e2 e3 hq hj
      obtain ⟨m1, m2, m3, m4⟩ := mul_digs a b i q
      have hset := mem_set (a := a) (b := b) i16 q16 rfl
      have dD := u64s_at (n := 32) (w := memN a b i q) (i := i + q) (by omega)
      rw [memN_at] at dD
      have dX := u64s_at (w := dig a) i16
      have dY := u64s_at (w := dig b) q16
      have lx := dig_lt (rowN a b i) (i + q)
      have ly := dig_lt a i
      have lz := dig_lt b q
      rw [← m4] at hset
      rw [← m3] at hK
      clear m3 m4
      generalize accN a b i (q + 1) / 65536 ^ (i + q) = S at *
      generalize accN a b i q / 65536 ^ (i + q) = c at *
      generalize dig (rowN a b i) (i + q) = x at *
      generalize dig a i = y at *
      generalize dig b q = z at *
      have lp : y * z ≤ 65535 * 65535 := Nat.mul_le_mul (by omega) (by omega)
      have ep : IntKind.u64.wrap ((y : Int) * (z : Int)) = ((y * z : Nat) : Int) := by rw [← Int.natCast_mul, IntKind.wrap_u64]; omega
      generalize y * z = p at *
      obtain ⟨t, ht⟩ : ∃ t, x + p = t := ⟨_, rfl⟩
      rw [ht] at m1
      have e1 : IntKind.u64.wrap ((x : Int) + (p : Int)) = (t : Int) := by rw [IntKind.wrap_u64]; omega
      have e2 : IntKind.u64.wrap ((t : Int) + (c : Int)) = (S : Int) := by rw [IntKind.wrap_u64]; omega
      have e3 : (S : Int).tmod 65536 = ((S % 65536 : Nat) : Int) := by rw [Int.tmod_eq_emod_of_nonneg (by omega)]; omega
      have e4 : (S : Int) / 65536 = ((S / 65536 : Nat) : Int) := by omega
      have e5 : IntKind.u64.wrap ((S / 65536 : Nat) : Int) = ((S / 65536 : Nat) : Int) := by rw [IntKind.wrap_u64]; omega
      have e6 : 0 ≤ (S : Int) := by omega
      generalize S % 65536 = d at *
      generalize S / 65536 = c' at *
      obtain ⟨P, hP⟩ : ∃ P, i + q = P := ⟨_, rfl⟩
      rw [hP] at hset dD
      have e7 : IntKind.i64.wrap ((i : Int) + (q : Int)) = (P : Int) := by rw [IntKind.wrap_i64]; omega
      have e8 : 0 ≤ (P : Int) := by omega
      have e9 : (P : Int) < 32 := by omega
      have e10 : P < 32 := by omega
      have f0 : 0 ≤ (q : Int) := by omega
      have f1 : (q : Int) < 16 := by omega
      clear ht hP m1 m2 lx ly lz lp
      go_wp2_with (first | (refine' xAb hR rfl rfl rfl ?_; clear hR; intro blk w hR) | (refine' xAa hR rfl rfl inferInstance ?_; clear hR; intro blk w hR) | (refine' aFq hR rfl rfl rfl inferInstance ?_) | (refine' aGq hR rfl rfl rfl inferInstance ?_) | (refine' aHq hR rfl rfl rfl inferInstance ?_) | (refine' aDq hR rfl rfl rfl inferInstance rfl ?_; clear hR; intro w hR) | (refine' aEq hR rfl rfl rfl inferInstance rfl rfl ?_; clear hR; intro w hR) | fail)
      refine xAf hR [0, 0, 0, 0, 0, 0, 0, 0, 0, 0, 0, 0, 0, 0, 0, 2] [] xBx (by kernel_rfl) rfl rfl (fun K hK => ?_)
      clear hR
      repeat ((first | (refine xBl ?_) | (refine' xAt (by decide) rfl (.inl rfl) rfl ?ha ?_) | (refine' xAt (by decide) rfl (.inr rfl) rfl ?ha ?_) | (refine' xAr rfl rfl rfl inferInstance ?hm ?hn ?ha ?_; (case hm => first | with_reducible assumption | repeat (first | exact .head _ | with_reducible assumption | apply mC)); (case hn => first | rfl | simp)) | (refine' xAo rfl rfl rfl inferInstance ?hm ?hv ?hn ?ha ?_; (case hm => first | with_reducible assumption | repeat (first | exact .head _ | with_reducible assumption | apply mC)); (case hv => first | with_reducible assumption | (simp only [kC, kD, kE, kF]; try rfl)); (case hn => first | rfl | simp)) | (refine' xAi rfl rfl rfl inferInstance ?hm ?hv ?ha ?_; (case hm => first | with_reducible assumption | repeat (first | exact .head _ | with_reducible assumption | apply mC)); (case hv => first | rfl | with_reducible assumption)) | (refine' xAv rfl rfl rfl inferInstance ?hm ?hv ?hn ?ha ?_; (case hm => first | with_reducible assumption | repeat (first | exact .head _ | with_reducible assumption | apply mC)); (case hv => first | with_reducible assumption | (simp only [kC, kD, kE, kF]; try rfl)); (case hn => first | rfl | simp)) | (refine' xAn rfl rfl rfl inferInstance ?hm ?hv ?ha ?_; (case hm => first | with_reducible assumption | repeat (first | exact .head _ | with_reducible assumption | apply mC)); (case hv => first | rfl | with_reducible assumption)) | ((first | refine' xAe (by decide) rfl rfl rfl rfl (fun w => ?hq) ?ha ?_ | refine' xBb (by decide) rfl rfl rfl rfl (fun w => ?hq) ?ha ?_ | refine' xAp (by decide) rfl rfl rfl (fun w => ?hq) ?ha ?_ | refine' xAd (by decide) rfl rfl rfl (fun w => ?hq) ?ha ?_ | refine' xAq (by decide) rfl rfl rfl (fun w => ?hq) ?ha ?_ | refine' xBa (by decide) rfl rfl rfl rfl (fun w => ?hq) ?ha ?_ | refine' xBf (by decide) rfl rfl rfl rfl rfl rfl (fun w => ?hq) ?ha ?_ | refine' xBd (by decide) rfl rfl (fun w => ?hq) ?ha ?_ | refine' xAw (by decide) rfl rfl rfl (fun w => ?hq) ?ha ?_ | refine' xBe (by decide) rfl rfl rfl (fun w => ?hq) ?ha ?_); (case hq => go_simp; try rfl)) | (refine' xAm (by decide) rfl rfl rfl ?ha ?_) | (refine' xBi (by decide) rfl rfl rfl rfl ?ha ?_) | (refine' xBk (by decide) rfl ?ha ?_) | fail); try (case ha => simp only [kP, kQ, kA, kB]; try rfl))
      refine xBp (hK _ _ ?_)
      clear hK K
      refine xBo (fun Q hQ => ?_)
      try simp only [List.nil_append, List.cons_append]
      repeat ((first | refine' xAx rfl (.inl rfl) rfl ?hk ?ha ?_ | refine' xAx rfl (.inr rfl) rfl ?hk ?ha ?_ | (refine' xAl rfl rfl rfl inferInstance rfl ?hs rfl rfl ?hn ?hk ?ha ?_; (case hs => repeat (first | exact xAs.head | apply xAs.tail)); (case hn => first | rfl | simp)) | (refine' xAh rfl rfl rfl inferInstance rfl rfl ?hs ?hn ?hl ?hk ?ha ?_; (case hs => repeat (first | exact xAs.head | apply xAs.tail)); (case hn => first | exact oD rfl | (show _ < 4; with_reducible assumption) | (simp; try omega)); (case hl => first | with_reducible assumption | (simp only [nl, kA, kB]; first | done | rfl) | rfl)) | (refine' xAk rfl rfl rfl inferInstance rfl rfl ?hvn ?hs ?hn ?hl ?hk ?ha ?_; (case hvn => first | rfl | simp); (case hs => repeat (first | exact xAs.head | apply xAs.tail)); (case hn => first | exact oD rfl | (show _ < 4; with_reducible assumption) | (simp; try omega)); (case hl => first | with_reducible assumption | (simp only [nl, kA, kB]; first | done | rfl) | rfl)) | (refine' xBj rfl (fun w => ?hq) ?hk ?ha ?_; (case hq => go_simp; try rfl))); (case hk => intro p hp; first | exact absurd hp List.not_mem_nil | (obtain rfl := List.mem_singleton.1 hp; repeat (first | exact List.Mem.head _ | with_reducible assumption | apply mC))); (case ha => simp only [kP, kQ, kA, kB]; try rfl))
      refine xBn (fun w hR => hQ _ _ ?_)
      clear hQ Q
      go_wp2_with (first | (refine' xAb hR rfl rfl rfl ?_; clear hR; intro blk w hR) | (refine' xAa hR rfl rfl inferInstance ?_; clear hR; intro blk w hR) | (refine' aFq hR rfl rfl rfl inferInstance ?_) | (refine' aGq hR rfl rfl rfl inferInstance ?_) | (refine' aHq hR rfl rfl rfl inferInstance ?_) | (refine' aDq hR rfl rfl rfl inferInstance rfl ?_; clear hR; intro w hR) | (refine' aEq hR rfl rfl rfl inferInstance rfl rfl ?_; clear hR; intro w hR) | fail)
      exact hK.out _ _ (xBg rfl rfl rfl) hR
    case he2 =>
      clear hR
      intro tm w ht hR K2
      simp only [Int.natCast_zero, Int.sub_zero] at ht
      simp only [Nat.sub_zero] at hR ht
      repeat (first | (obtain ⟨x, tm', e, ht'⟩ := xAu ht; clear ht; subst e; have ht := ht'; clear ht') | (obtain ⟨tm', e, ht'⟩ := xAj ht; clear ht; subst e; have ht := ht'; clear ht'))
      obtain rfl := xAy ht
      clear ht
      have hset := row_set (a := a) hb i16 rfl
      generalize accN a b i 16 / 65536 ^ (i + 16) = c at *
      obtain ⟨P, hP⟩ : ∃ P, i + 16 = P := ⟨_, rfl⟩
      rw [hP] at hset
      have e7 : IntKind.i64.wrap ((i : Int) + 16) = (P : Int) := by rw [IntKind.wrap_i64]; omega
      have e8 : 0 ≤ (P : Int) := by omega
      have e9 : (P : Int) < 32 := by omega
      have e10 : P < 32 := by omega
      clear hP
      go_wp2_with (first | (refine' xAb hR rfl rfl rfl ?_; clear hR; intro blk w hR) | (refine' xAa hR rfl rfl inferInstance ?_; clear hR; intro blk w hR) | (refine' aFq hR rfl rfl rfl inferInstance ?_) | (refine' aGq hR rfl rfl rfl inferInstance ?_) | (refine' aHq hR rfl rfl rfl inferInstance ?_) | (refine' aDq hR rfl rfl rfl inferInstance rfl ?_; clear hR; intro w hR) | (refine' aEq hR rfl rfl rfl inferInstance rfl rfl ?_; clear hR; intro w hR) | fail)
      exact hK.out _ _ (xBg rfl rfl rfl) hR
  case he =>
    clear hR
    intro tm w ht hR K
    simp only [Int.natCast_zero, Int.sub_zero] at ht
    simp only [Nat.sub_zero] at hR ht
    repeat (first | (obtain ⟨x, tm', e, ht'⟩ := xAu ht; clear ht; subst e; have ht := ht'; clear ht') | (obtain ⟨tm', e, ht'⟩ := xAj ht; clear ht; subst e; have ht := ht'; clear ht'))
    obtain rfl := xAy ht
    clear ht
    rw [rowN_16 ha] at hR
    have h1 : ∀ j, j < 16 → (u64s 32 (dig (a * b)))[0 + j]? = some (.int .u64 (dig (a * b) j : Int)) := fun j hj => by rw [Nat.zero_add]; exact u64s_at (by omega)
    have h2 : ∀ j, j < 16 → (u64s 32 (dig (a * b)))[16 + j]? = some (.int .u64 (dig (a * b / B) j : Int)) := fun j hj => by rw [u64s_at (by omega), dig_half]
    go_wp2_with (first | (refine' xAb hR rfl rfl rfl ?_; clear hR; intro blk w hR) | (refine' xAa hR rfl rfl inferInstance ?_; clear hR; intro blk w hR) | (refine' aFq hR rfl rfl rfl inferInstance ?_) | (refine' aGq hR rfl rfl rfl inferInstance ?_) | (refine' aHq hR rfl rfl rfl inferInstance ?_) | (refine' aDq hR rfl rfl rfl inferInstance rfl ?_; clear hR; intro w hR) | (refine' aEq hR rfl rfl rfl inferInstance rfl rfl ?_; clear hR; intro w hR) | fail)
    refine xAf hR [0, 0, 0, 0, 2, 2] [] xBx (by kernel_rfl) rfl rfl (fun K hK => ?_)
    clear hR
    repeat ((first | (refine xBl ?_) | (refine' xAt (by decide) rfl (.inl rfl) rfl ?ha ?_) | (refine' xAt (by decide) rfl (.inr rfl) rfl ?ha ?_) | (refine' xAr rfl rfl rfl inferInstance ?hm ?hn ?ha ?_; (case hm => first | with_reducible assumption | repeat (first | exact .head _ | with_reducible assumption | apply mC)); (case hn => first | rfl | simp)) | (refine' xAo rfl rfl rfl inferInstance ?hm ?hv ?hn ?ha ?_; (case hm => first | with_reducible assumption | repeat (first | exact .head _ | with_reducible assumption | apply mC)); (case hv => first | with_reducible assumption | (simp only [kC, kD, kE, kF]; try rfl)); (case hn => first | rfl | simp)) | (refine' xAi rfl rfl rfl inferInstance ?hm ?hv ?ha ?_; (case hm => first | with_reducible assumption | repeat (first | exact .head _ | with_reducible assumption | apply mC)); (case hv => first | rfl | with_reducible assumption)) | (refine' xAv rfl rfl rfl inferInstance ?hm ?hv ?hn ?ha ?_; (case hm => first | with_reducible assumption | repeat (first | exact .head _ | with_reducible assumption | apply mC)); (case hv => first | with_reducible assumption | (simp only [kC, kD, kE, kF]; try rfl)); (case hn => first | rfl | simp)) | (refine' xAn rfl rfl rfl inferInstance ?hm ?hv ?ha ?_; (case hm => first | with_reducible assumption | repeat (first | exact .head _ | with_reducible assumption | apply mC)); (case hv => first | rfl | with_reducible assumption)) | ((first | refine' xAe (by decide) rfl rfl rfl rfl (fun w => ?hq) ?ha ?_ | refine' xBb (by decide) rfl rfl rfl rfl (fun w => ?hq) ?ha ?_ | refine' xAp (by decide) rfl rfl rfl (fun w => ?hq) ?ha ?_ | refine' xAd (by decide) rfl rfl rfl (fun w => ?hq) ?ha ?_ | refine' xAq (by decide) rfl rfl rfl (fun w => ?hq) ?ha ?_ | refine' xBa (by decide) rfl rfl rfl rfl (fun w => ?hq) ?ha ?_ | refine' xBf (by decide) rfl rfl rfl rfl rfl rfl (fun w => ?hq) ?ha ?_ | refine' xBd (by decide) rfl rfl (fun w => ?hq) ?ha ?_ | refine' xAw (by decide) rfl rfl rfl (fun w => ?hq) ?ha ?_ | refine' xBe (by decide) rfl rfl rfl (fun w => ?hq) ?ha ?_); (case hq => go_simp; try rfl)) | (refine' xAm (by decide) rfl rfl rfl ?ha ?_) | (refine' xBi (by decide) rfl rfl rfl rfl ?ha ?_) | (refine' xBk (by decide) rfl ?ha ?_) | (refine' xCg rfl rfl rfl (xBh Try.func102 (by kernel_rfl) (by kernel_rfl) _) (fun w hw => of_digits (a * b) blk 0 32 _ _ (List.Mem.head _) h1 hw) ?ha ?_) | (refine' xCg rfl rfl rfl (xBh Try.func102 (by kernel_rfl) (by kernel_rfl) _) (fun w hw => of_digits (a * b / B) blk 16 16 _ _ (List.Mem.head _) h2 hw) ?ha ?_)); try (case ha => simp only [kP, kQ, kA, kB]; try rfl))
    refine xBp (hK _ _ ?_)
    clear hK K
    refine xBo (fun Q hQ => ?_)
    try simp only [List.nil_append, List.cons_append]
    repeat ((first | refine' xAx rfl (.inl rfl) rfl ?hk ?ha ?_ | refine' xAx rfl (.inr rfl) rfl ?hk ?ha ?_ | (refine' xAl rfl rfl rfl inferInstance rfl ?hs rfl rfl ?hn ?hk ?ha ?_; (case hs => repeat (first | exact xAs.head | apply xAs.tail)); (case hn => first | rfl | simp)) | (refine' xAh rfl rfl rfl inferInstance rfl rfl ?hs ?hn ?hl ?hk ?ha ?_; (case hs => repeat (first | exact xAs.head | apply xAs.tail)); (case hn => first | exact oD rfl | (show _ < 4; with_reducible assumption) | (simp; try omega)); (case hl => first | with_reducible assumption | (simp only [nl, kA, kB]; first | done | rfl) | rfl)) | (refine' xAk rfl rfl rfl inferInstance rfl rfl ?hvn ?hs ?hn ?hl ?hk ?ha ?_; (case hvn => first | rfl | simp); (case hs => repeat (first | exact xAs.head | apply xAs.tail)); (case hn => first | exact oD rfl | (show _ < 4; with_reducible assumption) | (simp; try omega)); (case hl => first | with_reducible assumption | (simp only [nl, kA, kB]; first | done | rfl) | rfl)) | (refine' xBj rfl (fun w => ?hq) ?hk ?ha ?_; (case hq => go_simp; try rfl))); (case hk => intro p hp; first | exact absurd hp List.not_mem_nil | (obtain rfl := List.mem_singleton.1 hp; repeat (first | exact List.Mem.head _ | with_reducible assumption | apply mC))); (case ha => simp only [kP, kQ, kA, kB]; try rfl))
    refine xBn (fun w hR => hQ _ _ ?_)
    clear hQ Q
    go_wp2_with (first | (refine' xAb hR rfl rfl rfl ?_; clear hR; intro blk w hR) | (refine' xAa hR rfl rfl inferInstance ?_; clear hR; intro blk w hR) | (refine' aFq hR rfl rfl rfl inferInstance ?_) | (refine' aGq hR rfl rfl rfl inferInstance ?_) | (refine' aHq hR rfl rfl rfl inferInstance ?_) | (refine' aDq hR rfl rfl rfl inferInstance rfl ?_; clear hR; intro w hR) | (refine' aEq hR rfl rfl rfl inferInstance rfl rfl ?_; clear hR; intro w hR) | fail)
    (refine' bodyPost_ret (results_cc Try.results132 rfl (hR.loadAll (P := Try.prog) (ty := 24) ?hm ?hn) rfl (hR.loadAll (P := Try.prog) (ty := 24) ?hm2 ?hn2)) rfl ⟨?_, hR.below⟩; (case hm => first | with_reducible assumption | repeat (first | exact .head _ | with_reducible assumption | apply mC)); (case hn => first | rfl | simp); (case hm2 => first | with_reducible assumption | repeat (first | exact .head _ | with_reducible assumption | apply mC)); (case hn2 => first | rfl | simp))
    rfl
end Go.Proofs.Ytdagdfcbnhfdkaa
namespace Go.Proofs.Ytdagdfcbnhfdkaa
open Go.RowKit
attribute [local irreducible] Calls
theorem rm_lit {a b l h : Nat} (ha : a < B) (hb : b < B) (hl : a * b % B = l) (hh : a * b / B = h) (w : World) : Calls Try.prog 132 #[num a, num b] w fun e w' =>
    e = .returned (.tuple #[num l, num h]) ∧ Below w.heap.size w w' := by
  have := refMul_any a b ha hb w
  rw [hh, ← num_mod (a * b), hl] at this
  exact this
theorem rw_lit {a b m r : Nat} {e : Int} (ha : a < B) (hb : b < B) (hm : m < B) (hr : widN a b m = r) (he : (if m = 0 then (1 : Int) else 0) = e) (w : World) : Calls Try.prog 133 #[num a, num b, num m] w fun e' w' =>
    e' = .returned (.tuple #[num r, .int .i64 e]) ∧ Below w.heap.size w w' := by
  have := refWide_any a b m ha hb hm w
  rwa [hr, he] at this
theorem ra_mod {a b s : Nat} {c : Int} (ha : a < B) (hb : b < B) (hs : (a + b) % B = s) (hc : (((a + b) / B : Nat) : Int) = c) (w : World) : Calls Try.prog 103 #[num a, num b] w fun e w' =>
    e = .returned (.tuple #[num s, .int .u64 c]) ∧ Below w.heap.size w w' := by
  have := refAdd_any a b ha hb w
  rw [hc, ← num_mod (a + b), hs] at this
  exact this
theorem rs_mod {a b d : Nat} {c : Int} (ha : a < B) (hb : b < B) (hd : (a + B - b) % B = d) (hc : bor (a : Int) (b : Int) = c) (w : World) : Calls Try.prog 59 #[num a, num b] w fun e w' =>
    e = .returned (.tuple #[num d, .int .u64 c]) ∧ Below w.heap.size w w' := by
  have := refSub_any a b ha hb w
  rw [hc, ← num_mod (a + B - b), hd] at this
  exact this
set_option maxRecDepth 100000 in
set_option maxHeartbeats 2000000 in
theorem refMay_any (a b m : Nat) (ha : a < B) (hb : b < B) (hm : m < B) (w : World) : Calls Try.prog 94 #[num a, num b, num m] w fun e w' =>
    e = .returned (.bool (decide (okM a b m))) ∧ Below w.heap.size w w' := by
  obtain ⟨n1, h1⟩ : ∃ n, n = 1 := ⟨_, rfl⟩
  have o1 : ∀ w, Calls Try.prog 93 #[.int .u64 1] w fun e w' => e = .returned (num n1) ∧ Below w.heap.size w w' := fun w => by
    rw [h1]; exact xCm 1 (by decide) w
  have L1 : n1 < B := lt_B (by omega)
  have c1 := rc_lit hm L1 rfl
  have c2 := rc_lit ha hm rfl
  have c3 := rc_lit hb hm rfl
  have k1 := cmpN_gt m n1
  have k2 := cmpN_lt a m
  have k3 := cmpN_lt b m
  generalize cmpN m n1 = x1 at *
  generalize cmpN a m = x2 at *
  generalize cmpN b m = x3 at *
  by_cases j1 : 0 < x1
  · by_cases j2 : x2 < 0
    · by_cases j3 : x3 < 0
      · rw [decide_eq_true (show okM a b m from ⟨by have := k1.mp j1; omega, k2.mp j2, k3.mp j3⟩)]
        clear k1 k2 k3 L1 h1
        have hR := Rep.init w
        go_enter Try.func94, Try.ntmps94
        go_wp2_with (first | (refine' xAb hR rfl rfl rfl ?_; clear hR; intro blk w hR) | (refine' xAa hR rfl rfl inferInstance ?_; clear hR; intro blk w hR) | (refine' aAq hR rfl rfl rfl inferInstance ?_) | (refine' aBq hR rfl rfl rfl inferInstance ?_) | (refine' aCq hR rfl rfl rfl inferInstance ?_) | (refine' aDq hR rfl rfl rfl inferInstance rfl ?_; clear hR; intro w hR) | (refine' aEq hR rfl rfl rfl inferInstance rfl rfl ?_; clear hR; intro w hR) | fail)
        refine xAf hR [0, 0, 0, 0, 0, 0, 0, 0, 0, 0, 0, 0, 0, 0, 0, 0, 2] [] xBx (by kernel_rfl) rfl rfl (fun K hK => ?_)
        clear hR
        repeat ((first | (refine xBl ?_) | (refine' xAt (by decide) rfl (.inl rfl) rfl ?ha ?_) | (refine' xAt (by decide) rfl (.inr rfl) rfl ?ha ?_) | (refine' xAr rfl rfl rfl inferInstance ?hm ?hn ?ha ?_; (case hm => first | with_reducible assumption | repeat (first | exact .head _ | apply mT)); (case hn => first | rfl | simp)) | (refine' xAo rfl rfl rfl inferInstance ?hm ?hv ?hn ?ha ?_; (case hm => first | with_reducible assumption | repeat (first | exact .head _ | apply mT)); (case hv => first | with_reducible assumption | (simp only [kC, kD, kE, kF]; try rfl)); (case hn => first | rfl | simp)) | (refine' xAi rfl rfl rfl inferInstance ?hm ?hv ?ha ?_; (case hm => first | with_reducible assumption | repeat (first | exact .head _ | apply mT)); (case hv => first | rfl | with_reducible assumption)) | (refine' xAv rfl rfl rfl inferInstance ?hm ?hv ?hn ?ha ?_; (case hm => first | with_reducible assumption | repeat (first | exact .head _ | apply mT)); (case hv => first | with_reducible assumption | (simp only [kC, kD, kE, kF]; try rfl)); (case hn => first | rfl | simp)) | (refine' xAn rfl rfl rfl inferInstance ?hm ?hv ?ha ?_; (case hm => first | with_reducible assumption | repeat (first | exact .head _ | apply mT)); (case hv => first | rfl | with_reducible assumption)) | ((first | refine' xAe (by decide) rfl rfl rfl rfl (fun w => ?hq) ?ha ?_ | refine' xBb (by decide) rfl rfl rfl rfl (fun w => ?hq) ?ha ?_ | refine' xAp (by decide) rfl rfl rfl (fun w => ?hq) ?ha ?_ | refine' xAd (by decide) rfl rfl rfl (fun w => ?hq) ?ha ?_ | refine' xAq (by decide) rfl rfl rfl (fun w => ?hq) ?ha ?_ | refine' xBa (by decide) rfl rfl rfl rfl (fun w => ?hq) ?ha ?_ | refine' xBf (by decide) rfl rfl rfl rfl rfl rfl (fun w => ?hq) ?ha ?_ | refine' xBd (by decide) rfl rfl (fun w => ?hq) ?ha ?_ | refine' xAw (by decide) rfl rfl rfl (fun w => ?hq) ?ha ?_ | refine' xBe (by decide) rfl rfl rfl (fun w => ?hq) ?ha ?_); (case hq => go_simp; try rfl)) | (refine' xAm (by decide) rfl rfl rfl ?ha ?_) | (refine' xBi (by decide) rfl rfl rfl rfl ?ha ?_) | (refine' xBk (by decide) rfl ?ha ?_) | (refine' xBc rfl rfl rfl (xBh Try.func93 (by kernel_rfl) (by kernel_rfl) _) (fun w => o1 w) ?ha ?_) | (refine' xBc rfl rfl rfl (xBh Try.func50 (by kernel_rfl) (by kernel_rfl) _) (fun w => c1 w) ?ha ?_) | (refine' xBc rfl rfl rfl (xBh Try.func50 (by kernel_rfl) (by kernel_rfl) _) (fun w => c2 w) ?ha ?_) | (refine' xBc rfl rfl rfl (xBh Try.func50 (by kernel_rfl) (by kernel_rfl) _) (fun w => c3 w) ?ha ?_)); try (case ha => simp only [kP, kQ, kA, kB]; try rfl))
        refine xBp (hK _ _ ?_)
        clear hK K
        refine xBo (fun Q hQ => ?_)
        try simp only [List.nil_append, List.cons_append]
        repeat ((first | refine' xAx rfl (.inl rfl) rfl ?hk ?ha ?_ | refine' xAx rfl (.inr rfl) rfl ?hk ?ha ?_ | (refine' xAl rfl rfl rfl inferInstance rfl ?hs rfl rfl ?hn ?hk ?ha ?_; (case hs => repeat (first | exact xAs.head | apply xAs.tail)); (case hn => first | rfl | simp)) | (refine' xAh rfl rfl rfl inferInstance rfl rfl ?hs ?hn ?hl ?hk ?ha ?_; (case hs => repeat (first | exact xAs.head | apply xAs.tail)); (case hn => first | exact oD rfl | (show _ < 4; with_reducible assumption) | (simp; try omega)); (case hl => first | with_reducible assumption | (simp only [nl, kA, kB]; first | done | rfl) | rfl)) | (refine' xAk rfl rfl rfl inferInstance rfl rfl ?hvn ?hs ?hn ?hl ?hk ?ha ?_; (case hvn => first | rfl | simp); (case hs => repeat (first | exact xAs.head | apply xAs.tail)); (case hn => first | exact oD rfl | (show _ < 4; with_reducible assumption) | (simp; try omega)); (case hl => first | with_reducible assumption | (simp only [nl, kA, kB]; first | done | rfl) | rfl)) | (refine' xBj rfl (fun w => ?hq) ?hk ?ha ?_; (case hq => go_simp; try rfl))); (case hk => intro p hp; first | exact absurd hp List.not_mem_nil | (obtain rfl := List.mem_singleton.1 hp; repeat (first | exact List.Mem.head _ | apply mT))); (case ha => simp only [kP, kQ, kA, kB]; try rfl))
        refine xBn (fun w hR => hQ _ _ ?_)
        clear hQ Q
        go_wp2_with (first | (refine' xAb hR rfl rfl rfl ?_; clear hR; intro blk w hR) | (refine' xAa hR rfl rfl inferInstance ?_; clear hR; intro blk w hR) | (refine' aAq hR rfl rfl rfl inferInstance ?_) | (refine' aBq hR rfl rfl rfl inferInstance ?_) | (refine' aCq hR rfl rfl rfl inferInstance ?_) | (refine' aDq hR rfl rfl rfl inferInstance rfl ?_; clear hR; intro w hR) | (refine' aEq hR rfl rfl rfl inferInstance rfl rfl ?_; clear hR; intro w hR) | fail)
        go_ret
        exact ⟨rfl, hR.below⟩
      · rw [decide_eq_false (fun h : okM a b m => j3 (k3.mpr h.2.2))]
        have j4 : decide (x3 < 0) = false := decide_eq_false j3
        clear k1 k2 k3 L1 h1
        have hR := Rep.init w
        go_enter Try.func94, Try.ntmps94
        go_wp2_with (first | (refine' xAb hR rfl rfl rfl ?_; clear hR; intro blk w hR) | (refine' xAa hR rfl rfl inferInstance ?_; clear hR; intro blk w hR) | (refine' aAq hR rfl rfl rfl inferInstance ?_) | (refine' aBq hR rfl rfl rfl inferInstance ?_) | (refine' aCq hR rfl rfl rfl inferInstance ?_) | (refine' aDq hR rfl rfl rfl inferInstance rfl ?_; clear hR; intro w hR) | (refine' aEq hR rfl rfl rfl inferInstance rfl rfl ?_; clear hR; intro w hR) | fail)
        refine xAf hR [0, 0, 0, 0, 0, 0, 0, 0, 0, 0, 0, 0, 0, 0, 0, 0, 2] [] xBx (by kernel_rfl) rfl rfl (fun K hK => ?_)
        clear hR
        repeat ((first | (refine xBl ?_) | (refine' xAt (by decide) rfl (.inl rfl) rfl ?ha ?_) | (refine' xAt (by decide) rfl (.inr rfl) rfl ?ha ?_) | (refine' xAr rfl rfl rfl inferInstance ?hm ?hn ?ha ?_; (case hm => first | with_reducible assumption | repeat (first | exact .head _ | apply mT)); (case hn => first | rfl | simp)) | (refine' xAo rfl rfl rfl inferInstance ?hm ?hv ?hn ?ha ?_; (case hm => first | with_reducible assumption | repeat (first | exact .head _ | apply mT)); (case hv => first | with_reducible assumption | (simp only [kC, kD, kE, kF]; try rfl)); (case hn => first | rfl | simp)) | (refine' xAi rfl rfl rfl inferInstance ?hm ?hv ?ha ?_; (case hm => first | with_reducible assumption | repeat (first | exact .head _ | apply mT)); (case hv => first | rfl | with_reducible assumption)) | (refine' xAv rfl rfl rfl inferInstance ?hm ?hv ?hn ?ha ?_; (case hm => first | with_reducible assumption | repeat (first | exact .head _ | apply mT)); (case hv => first | with_reducible assumption | (simp only [kC, kD, kE, kF]; try rfl)); (case hn => first | rfl | simp)) | (refine' xAn rfl rfl rfl inferInstance ?hm ?hv ?ha ?_; (case hm => first | with_reducible assumption | repeat (first | exact .head _ | apply mT)); (case hv => first | rfl | with_reducible assumption)) | ((first | refine' xAe (by decide) rfl rfl rfl rfl (fun w => ?hq) ?ha ?_ | refine' xBb (by decide) rfl rfl rfl rfl (fun w => ?hq) ?ha ?_ | refine' xAp (by decide) rfl rfl rfl (fun w => ?hq) ?ha ?_ | refine' xAd (by decide) rfl rfl rfl (fun w => ?hq) ?ha ?_ | refine' xAq (by decide) rfl rfl rfl (fun w => ?hq) ?ha ?_ | refine' xBa (by decide) rfl rfl rfl rfl (fun w => ?hq) ?ha ?_ | refine' xBf (by decide) rfl rfl rfl rfl rfl rfl (fun w => ?hq) ?ha ?_ | refine' xBd (by decide) rfl rfl (fun w => ?hq) ?ha ?_ | refine' xAw (by decide) rfl rfl rfl (fun w => ?hq) ?ha ?_ | refine' xBe (by decide) rfl rfl rfl (fun w => ?hq) ?ha ?_); (case hq => go_simp; try rfl)) | (refine' xAm (by decide) rfl rfl rfl ?ha ?_) | (refine' xBi (by decide) rfl rfl rfl rfl ?ha ?_) | (refine' xBk (by decide) rfl ?ha ?_) | (refine' xBc rfl rfl rfl (xBh Try.func93 (by kernel_rfl) (by kernel_rfl) _) (fun w => o1 w) ?ha ?_) | (refine' xBc rfl rfl rfl (xBh Try.func50 (by kernel_rfl) (by kernel_rfl) _) (fun w => c1 w) ?ha ?_) | (refine' xBc rfl rfl rfl (xBh Try.func50 (by kernel_rfl) (by kernel_rfl) _) (fun w => c2 w) ?ha ?_) | (refine' xBc rfl rfl rfl (xBh Try.func50 (by kernel_rfl) (by kernel_rfl) _) (fun w => c3 w) ?ha ?_)); try (case ha => simp only [kP, kQ, kA, kB]; try rfl))
        refine xBp (hK _ _ ?_)
        clear hK K
        refine xBo (fun Q hQ => ?_)
        try simp only [List.nil_append, List.cons_append]
        repeat ((first | refine' xAx rfl (.inl rfl) rfl ?hk ?ha ?_ | refine' xAx rfl (.inr rfl) rfl ?hk ?ha ?_ | (refine' xAl rfl rfl rfl inferInstance rfl ?hs rfl rfl ?hn ?hk ?ha ?_; (case hs => repeat (first | exact xAs.head | apply xAs.tail)); (case hn => first | rfl | simp)) | (refine' xAh rfl rfl rfl inferInstance rfl rfl ?hs ?hn ?hl ?hk ?ha ?_; (case hs => repeat (first | exact xAs.head | apply xAs.tail)); (case hn => first | exact oD rfl | (show _ < 4; with_reducible assumption) | (simp; try omega)); (case hl => first | with_reducible assumption | (simp only [nl, kA, kB]; first | done | rfl) | rfl)) | (refine' xAk rfl rfl rfl inferInstance rfl rfl ?hvn ?hs ?hn ?hl ?hk ?ha ?_; (case hvn => first | rfl | simp); (case hs => repeat (first | exact xAs.head | apply xAs.tail)); (case hn => first | exact oD rfl | (show _ < 4; with_reducible assumption) | (simp; try omega)); (case hl => first | with_reducible assumption | (simp only [nl, kA, kB]; first | done | rfl) | rfl)) | (refine' xBj rfl (fun w => ?hq) ?hk ?ha ?_; (case hq => go_simp; try rfl))); (case hk => intro p hp; first | exact absurd hp List.not_mem_nil | (obtain rfl := List.mem_singleton.1 hp; repeat (first | exact List.Mem.head _ | apply mT))); (case ha => simp only [kP, kQ, kA, kB]; try rfl))
        refine xBn (fun w hR => hQ _ _ ?_)
        clear hQ Q
        go_wp2_with (first | (refine' xAb hR rfl rfl rfl ?_; clear hR; intro blk w hR) | (refine' xAa hR rfl rfl inferInstance ?_; clear hR; intro blk w hR) | (refine' aAq hR rfl rfl rfl inferInstance ?_) | (refine' aBq hR rfl rfl rfl inferInstance ?_) | (refine' aCq hR rfl rfl rfl inferInstance ?_) | (refine' aDq hR rfl rfl rfl inferInstance rfl ?_; clear hR; intro w hR) | (refine' aEq hR rfl rfl rfl inferInstance rfl rfl ?_; clear hR; intro w hR) | fail)
        go_ret
        exact ⟨rfl, hR.below⟩
    · rw [decide_eq_false (fun h : okM a b m => j2 (k2.mpr h.2.1))]
      have j4 : decide (x2 < 0) = false := decide_eq_false j2
      clear k1 k2 k3 L1 h1
      have hR := Rep.init w
      go_enter Try.func94, Try.ntmps94
      go_wp2_with (first | (refine' xAb hR rfl rfl rfl ?_; clear hR; intro blk w hR) | (refine' xAa hR rfl rfl inferInstance ?_; clear hR; intro blk w hR) | (refine' aAq hR rfl rfl rfl inferInstance ?_) | (refine' aBq hR rfl rfl rfl inferInstance ?_) | (refine' aCq hR rfl rfl rfl inferInstance ?_) | (refine' aDq hR rfl rfl rfl inferInstance rfl ?_; clear hR; intro w hR) | (refine' aEq hR rfl rfl rfl inferInstance rfl rfl ?_; clear hR; intro w hR) | fail)
      refine xAf hR [0, 0, 0, 0, 0, 0, 0, 0, 0, 0, 0, 0, 0, 0, 0, 0, 2] [] xBx (by kernel_rfl) rfl rfl (fun K hK => ?_)
      clear hR
      repeat ((first | (refine xBl ?_) | (refine' xAt (by decide) rfl (.inl rfl) rfl ?ha ?_) | (refine' xAt (by decide) rfl (.inr rfl) rfl ?ha ?_) | (refine' xAr rfl rfl rfl inferInstance ?hm ?hn ?ha ?_; (case hm => first | with_reducible assumption | repeat (first | exact .head _ | apply mT)); (case hn => first | rfl | simp)) | (refine' xAo rfl rfl rfl inferInstance ?hm ?hv ?hn ?ha ?_; (case hm => first | with_reducible assumption | repeat (first | exact .head _ | apply mT)); (case hv => first | with_reducible assumption | (simp only [kC, kD, kE, kF]; try rfl)); (case hn => first | rfl | simp)) | (refine' xAi rfl rfl rfl inferInstance ?hm ?hv ?ha ?_; (case hm => first | with_reducible assumption | repeat (first | exact .head _ | apply mT)); (case hv => first | rfl | with_reducible assumption)) | (refine' xAv rfl rfl rfl inferInstance ?hm ?hv ?hn ?ha ?_; (case hm => first | with_reducible assumption | repeat (first | exact .head _ | apply mT)); (case hv => first | with_reducible assumption | (simp only [kC, kD, kE, kF]; try rfl)); (case hn => first | rfl | simp)) | (refine' xAn rfl rfl rfl inferInstance ?hm ?hv ?ha ?_; (case hm => first | with_reducible assumption | repeat (first | exact .head _ | apply mT)); (case hv => first | rfl | with_reducible assumption)) | ((first | refine' xAe (by decide) rfl rfl rfl rfl (fun w => ?hq) ?ha ?_ | refine' xBb (by decide) rfl rfl rfl rfl (fun w => ?hq) ?ha ?_ | refine' xAp (by decide) rfl rfl rfl (fun w => ?hq) ?ha ?_ | refine' xAd (by decide) rfl rfl rfl (fun w => ?hq) ?ha ?_ | refine' xAq (by decide) rfl rfl rfl (fun w => ?hq) ?ha ?_ | refine' xBa (by decide) rfl rfl rfl rfl (fun w => ?hq) ?ha ?_ | refine' xBf (by decide) rfl rfl rfl rfl rfl rfl (fun w => ?hq) ?ha ?_ | refine' xBd (by decide) rfl rfl (fun w => ?hq) ?ha ?_ | refine' xAw (by decide) rfl rfl rfl (fun w => ?hq) ?ha ?_ | refine' xBe (by decide) rfl rfl rfl (fun w => ?hq) ?ha ?_); (case hq => go_simp; try rfl)) | (refine' xAm (by decide) rfl rfl rfl ?ha ?_) | (refine' xBi (by decide) rfl rfl rfl rfl ?ha ?_) | (refine' xBk (by decide) rfl ?ha ?_) | (refine' xBc rfl rfl rfl (xBh Try.func93 (by kernel_rfl) (by kernel_rfl) _) (fun w => o1 w) ?ha ?_) | (refine' xBc rfl rfl rfl (xBh Try.func50 (by kernel_rfl) (by kernel_rfl) _) (fun w => c1 w) ?ha ?_) | (refine' xBc rfl rfl rfl (xBh Try.func50 (by kernel_rfl) (by kernel_rfl) _) (fun w => c2 w) ?ha ?_)); try (case ha => simp only [kP, kQ, kA, kB]; try rfl))
      refine xBp (hK _ _ ?_)
      clear hK K
      refine xBo (fun Q hQ => ?_)
      try simp only [List.nil_append, List.cons_append]
      repeat ((first | refine' xAx rfl (.inl rfl) rfl ?hk ?ha ?_ | refine' xAx rfl (.inr rfl) rfl ?hk ?ha ?_ | (refine' xAl rfl rfl rfl inferInstance rfl ?hs rfl rfl ?hn ?hk ?ha ?_; (case hs => repeat (first | exact xAs.head | apply xAs.tail)); (case hn => first | rfl | simp)) | (refine' xAh rfl rfl rfl inferInstance rfl rfl ?hs ?hn ?hl ?hk ?ha ?_; (case hs => repeat (first | exact xAs.head | apply xAs.tail)); (case hn => first | exact oD rfl | (show _ < 4; with_reducible assumption) | (simp; try omega)); (case hl => first | with_reducible assumption | (simp only [nl, kA, kB]; first | done | rfl) | rfl)) | (refine' xAk rfl rfl rfl inferInstance rfl rfl ?hvn ?hs ?hn ?hl ?hk ?ha ?_; (case hvn => first | rfl | simp); (case hs => repeat (first | exact xAs.head | apply xAs.tail)); (case hn => first | exact oD rfl | (show _ < 4; with_reducible assumption) | (simp; try omega)); (case hl => first | with_reducible assumption | (simp only [nl, kA, kB]; first | done | rfl) | rfl)) | (refine' xBj rfl (fun w => ?hq) ?hk ?ha ?_; (case hq => go_simp; try rfl))); (case hk => intro p hp; first | exact absurd hp List.not_mem_nil | (obtain rfl := List.mem_singleton.1 hp; repeat (first | exact List.Mem.head _ | apply mT))); (case ha => simp only [kP, kQ, kA, kB]; try rfl))
      refine xBn (fun w hR => hQ _ _ ?_)
      clear hQ Q
      go_wp2_with (first | (refine' xAb hR rfl rfl rfl ?_; clear hR; intro blk w hR) | (refine' xAa hR rfl rfl inferInstance ?_; clear hR; intro blk w hR) | (refine' aAq hR rfl rfl rfl inferInstance ?_) | (refine' aBq hR rfl rfl rfl inferInstance ?_) | (refine' aCq hR rfl rfl rfl inferInstance ?_) | (refine' aDq hR rfl rfl rfl inferInstance rfl ?_; clear hR; intro w hR) | (refine' aEq hR rfl rfl rfl inferInstance rfl rfl ?_; clear hR; intro w hR) | fail)
      go_ret
      exact ⟨rfl, hR.below⟩
  · rw [decide_eq_false (fun h : okM a b m => j1 (k1.mpr (by have := h.1; omega)))]
    have j4 : decide (0 < x1) = false := decide_eq_false j1
    clear k1 k2 k3 L1 h1
    have hR := Rep.init w
    go_enter Try.func94, Try.ntmps94
    go_wp2_with (first | (refine' xAb hR rfl rfl rfl ?_; clear hR; intro blk w hR) | (refine' xAa hR rfl rfl inferInstance ?_; clear hR; intro blk w hR) | (refine' aAq hR rfl rfl rfl inferInstance ?_) | (refine' aBq hR rfl rfl rfl inferInstance ?_) | (refine' aCq hR rfl rfl rfl inferInstance ?_) | (refine' aDq hR rfl rfl rfl inferInstance rfl ?_; clear hR; intro w hR) | (refine' aEq hR rfl rfl rfl inferInstance rfl rfl ?_; clear hR; intro w hR) | fail)
    refine xAf hR [0, 0, 0, 0, 0, 0, 0, 0, 0, 0, 0, 0, 0, 0, 0, 0, 2] [] xBx (by kernel_rfl) rfl rfl (fun K hK => ?_)
    clear hR
    repeat ((first | (refine xBl ?_) | (refine' xAt (by decide) rfl (.inl rfl) rfl ?ha ?_) | (refine' xAt (by decide) rfl (.inr rfl) rfl ?ha ?_) | (refine' xAr rfl rfl rfl inferInstance ?hm ?hn ?ha ?_; (case hm => first | with_reducible assumption | repeat (first | exact .head _ | apply mT)); (case hn => first | rfl | simp)) | (refine' xAo rfl rfl rfl inferInstance ?hm ?hv ?hn ?ha ?_; (case hm => first | with_reducible assumption | repeat (first | exact .head _ | apply mT)); (case hv => first | with_reducible assumption | (simp only [kC, kD, kE, kF]; try rfl)); (case hn => first | rfl | simp)) | (refine' xAi rfl rfl rfl inferInstance ?hm ?hv ?ha ?_; (case hm => first | with_reducible assumption | repeat (first | exact .head _ | apply mT)); (case hv => first | rfl | with_reducible assumption)) | (refine' xAv rfl rfl rfl inferInstance ?hm ?hv ?hn ?ha ?_; (case hm => first | with_reducible assumption | repeat (first | exact .head _ | apply mT)); (case hv => first | with_reducible assumption | (simp only [kC, kD, kE, kF]; try rfl)); (case hn => first | rfl | simp)) | (refine' xAn rfl rfl rfl inferInstance ?hm ?hv ?ha ?_; (case hm => first | with_reducible assumption | repeat (first | exact .head _ | apply mT)); (case hv => first | rfl | with_reducible assumption)) | ((first | refine' xAe (by decide) rfl rfl rfl rfl (fun w => ?hq) ?ha ?_ | refine' xBb (by decide) rfl rfl rfl rfl (fun w => ?hq) ?ha ?_ | refine' xAp (by decide) rfl rfl rfl (fun w => ?hq) ?ha ?_ | refine' xAd (by decide) rfl rfl rfl (fun w => ?hq) ?ha ?_ | refine' xAq (by decide) rfl rfl rfl (fun w => ?hq) ?ha ?_ | refine' xBa (by decide) rfl rfl rfl rfl (fun w => ?hq) ?ha ?_ | refine' xBf (by decide) rfl rfl rfl rfl rfl rfl (fun w => ?hq) ?ha ?_ | refine' xBd (by decide) rfl rfl (fun w => ?hq) ?ha ?_ | refine' xAw (by decide) rfl rfl rfl (fun w => ?hq) ?ha ?_ | refine' xBe (by decide) rfl rfl rfl (fun w => ?hq) ?ha ?_); (case hq => go_simp; try rfl)) | (refine' xAm (by decide) rfl rfl rfl ?ha ?_) | (refine' xBi (by decide) rfl rfl rfl rfl ?ha ?_) | (refine' xBk (by decide) rfl ?ha ?_) | (refine' xBc rfl rfl rfl (xBh Try.func93 (by kernel_rfl) (by kernel_rfl) _) (fun w => o1 w) ?ha ?_) | (refine' xBc rfl rfl rfl (xBh Try.func50 (by kernel_rfl) (by kernel_rfl) _) (fun w => c1 w) ?ha ?_)); try (case ha => simp only [kP, kQ, kA, kB]; try rfl))
    refine xBp (hK _ _ ?_)
    clear hK K
    refine xBo (fun Q hQ => ?_)
    try simp only [List.nil_append, List.cons_append]
    repeat ((first | refine' xAx rfl (.inl rfl) rfl ?hk ?ha ?_ | refine' xAx rfl (.inr rfl) rfl ?hk ?ha ?_ | (refine' xAl rfl rfl rfl inferInstance rfl ?hs rfl rfl ?hn ?hk ?ha ?_; (case hs => repeat (first | exact xAs.head | apply xAs.tail)); (case hn => first | rfl | simp)) | (refine' xAh rfl rfl rfl inferInstance rfl rfl ?hs ?hn ?hl ?hk ?ha ?_; (case hs => repeat (first | exact xAs.head | apply xAs.tail)); (case hn => first | exact oD rfl | (show _ < 4; with_reducible assumption) | (simp; try omega)); (case hl => first | with_reducible assumption | (simp only [nl, kA, kB]; first | done | rfl) | rfl)) | (refine' xAk rfl rfl rfl inferInstance rfl rfl ?hvn ?hs ?hn ?hl ?hk ?ha ?_; (case hvn => first | rfl | simp); (case hs => repeat (first | exact xAs.head | apply xAs.tail)); (case hn => first | exact oD rfl | (show _ < 4; with_reducible assumption) | (simp; try omega)); (case hl => first | with_reducible assumption | (simp only [nl, kA, kB]; first | done | rfl) | rfl)) | (refine' xBj rfl (fun w => ?hq) ?hk ?ha ?_; (case hq => go_simp; try rfl))); (case hk => intro p hp; first | exact absurd hp List.not_mem_nil | (obtain rfl := List.mem_singleton.1 hp; repeat (first | exact List.Mem.head _ | apply mT))); (case ha => simp only [kP, kQ, kA, kB]; try rfl))
    refine xBn (fun w hR => hQ _ _ ?_)
    clear hQ Q
    go_wp2_with (first | (refine' xAb hR rfl rfl rfl ?_; clear hR; intro blk w hR) | (refine' xAa hR rfl rfl inferInstance ?_; clear hR; intro blk w hR) | (refine' aAq hR rfl rfl rfl inferInstance ?_) | (refine' aBq hR rfl rfl rfl inferInstance ?_) | (refine' aCq hR rfl rfl rfl inferInstance ?_) | (refine' aDq hR rfl rfl rfl inferInstance rfl ?_; clear hR; intro w hR) | (refine' aEq hR rfl rfl rfl inferInstance rfl rfl ?_; clear hR; intro w hR) | fail)
    go_ret
    exact ⟨rfl, hR.below⟩
set_option maxRecDepth 100000 in
set_option maxHeartbeats 2000000 in
theorem ref04_sub (a b m : Nat) (ha : a < B) (hb : b < B) (hm : m < B) (w : World) : Calls Try.prog 136 #[num a, num b, num m] w fun e w' =>
    e = .returned (.tuple #[num (if okM a b m then subN a b m else 0), .int .i64 (if okM a b m then 0 else 1)]) ∧ Below w.heap.size w w' := by
  have bp := B_pos
  have cm := fun w => refMay_any a b m ha hb hm w
  by_cases ok : okM a b m
  · rw [if_pos ok, if_pos ok]
    rw [decide_eq_true ok] at cm
    obtain ⟨ok1, ok2, ok3⟩ := ok
    obtain ⟨x, hx⟩ : ∃ x, (a + B - b) % B = x := ⟨_, rfl⟩
    have lx : x < B := by rw [← hx]; exact Nat.mod_lt _ bp
    obtain ⟨r, hr⟩ : ∃ r, subN a b m = r := ⟨_, rfl⟩
    rw [hr]
    rw [subN_def] at hr
    by_cases hc : a < b
    · have d1 := rs_mod (c := 1) ha hb hx (by rw [bor_def, if_pos (by omega)])
      have e1 : x = a + B - b := by rw [← hx, Nat.mod_eq_of_lt (by omega)]
      have e2 : r = a + (m - b) := by rw [← hr, Nat.mod_eq_of_lt (by omega)]
      obtain ⟨c, hcc⟩ : ∃ c : Int, (((x + m) / B : Nat) : Int) = c := ⟨_, rfl⟩
      have s1 := ra_mod (s := r) lx hm (by rw [e1, e2, show a + B - b + m = (a + (m - b)) + B by omega, Nat.add_mod_right, Nat.mod_eq_of_lt (by omega)]) hcc
      clear bp hx lx hr hc e1 e2 hcc ok1 ok2 ok3
      have hR := Rep.init w
      go_enter Try.func136, Try.ntmps136
      go_wp2_with (first | (refine' xAb hR rfl rfl rfl ?_; clear hR; intro blk w hR) | (refine' xAa hR rfl rfl inferInstance ?_; clear hR; intro blk w hR) | (refine' aAq hR rfl rfl rfl inferInstance ?_) | (refine' aBq hR rfl rfl rfl inferInstance ?_) | (refine' aCq hR rfl rfl rfl inferInstance ?_) | (refine' aDq hR rfl rfl rfl inferInstance rfl ?_; clear hR; intro w hR) | (refine' aEq hR rfl rfl rfl inferInstance rfl rfl ?_; clear hR; intro w hR) | (go_at_call 94; refine (cm _).mono ?_; rintro e w ⟨rfl, hb⟩; replace hR := hR.call hb; clear hb) | (go_at_call 103; refine (s1 _).mono ?_; rintro e w ⟨rfl, hb⟩; replace hR := hR.call hb; clear hb) | (go_at_call 59; refine (d1 _).mono ?_; rintro e w ⟨rfl, hb⟩; replace hR := hR.call hb; clear hb))
      (refine' bodyPost_ret (xBm Try.results136 rfl (hR.loadAll (P := Try.prog) (ty := 24) ?hm ?hn)) rfl ⟨?_, hR.below⟩; (case hm => first | with_reducible assumption | repeat (first | exact .head _ | apply mT)); (case hn => first | rfl | simp))
      rfl
    · have d1 := rs_mod (c := 0) ha hb hx (by rw [bor_def, if_neg (by omega)])
      have e2 : r = x := by
        rw [← hr, ← hx, show a + (m - b) = (a - b) + m by omega, Nat.add_mod_right, Nat.mod_eq_of_lt (by omega), show a + B - b = (a - b) + B by omega, Nat.add_mod_right, Nat.mod_eq_of_lt (by omega)]
      rw [e2]
      clear bp hx lx hr hc e2 ok1 ok2 ok3
      have hR := Rep.init w
      go_enter Try.func136, Try.ntmps136
      go_wp2_with (first | (refine' xAb hR rfl rfl rfl ?_; clear hR; intro blk w hR) | (refine' xAa hR rfl rfl inferInstance ?_; clear hR; intro blk w hR) | (refine' aAq hR rfl rfl rfl inferInstance ?_) | (refine' aBq hR rfl rfl rfl inferInstance ?_) | (refine' aCq hR rfl rfl rfl inferInstance ?_) | (refine' aDq hR rfl rfl rfl inferInstance rfl ?_; clear hR; intro w hR) | (refine' aEq hR rfl rfl rfl inferInstance rfl rfl ?_; clear hR; intro w hR) | (go_at_call 94; refine (cm _).mono ?_; rintro e w ⟨rfl, hb⟩; replace hR := hR.call hb; clear hb) | (go_at_call 59; refine (d1 _).mono ?_; rintro e w ⟨rfl, hb⟩; replace hR := hR.call hb; clear hb))
      (refine' bodyPost_ret (xBm Try.results136 rfl (hR.loadAll (P := Try.prog) (ty := 24) ?hm ?hn)) rfl ⟨?_, hR.below⟩; (case hm => first | with_reducible assumption | repeat (first | exact .head _ | apply mT)); (case hn => first | rfl | simp))
      rfl
  · rw [if_neg ok, if_neg ok]
    rw [decide_eq_false ok] at cm
    clear ok bp
    have hR := Rep.init w
    go_enter Try.func136, Try.ntmps136
    go_wp2_with (first | (refine' xAb hR rfl rfl rfl ?_; clear hR; intro blk w hR) | (refine' xAa hR rfl rfl inferInstance ?_; clear hR; intro blk w hR) | (refine' aAq hR rfl rfl rfl inferInstance ?_) | (refine' aBq hR rfl rfl rfl inferInstance ?_) | (refine' aCq hR rfl rfl rfl inferInstance ?_) | (refine' aDq hR rfl rfl rfl inferInstance rfl ?_; clear hR; intro w hR) | (refine' aEq hR rfl rfl rfl inferInstance rfl rfl ?_; clear hR; intro w hR) | (go_at_call 94; refine (cm _).mono ?_; rintro e w ⟨rfl, hb⟩; replace hR := hR.call hb; clear hb))
    (refine' bodyPost_ret (xBm Try.results136 rfl (hR.loadAll (P := Try.prog) (ty := 24) ?hm ?hn)) rfl ⟨?_, hR.below⟩; (case hm => first | with_reducible assumption | repeat (first | exact .head _ | apply mT)); (case hn => first | rfl | simp))
    rw [xCe]
    rfl
theorem word_pair (a b m : Nat) (ha : a < m) (hb : b < 18446744073709551616) (hm : m < 18446744073709551616) : ∃ h l q : Nat,
    (∀ w, Calls Try.prog 123 #[.int .u64 (a : Int), .int .u64 (b : Int)] w fun e w' => e = .returned (.tuple #[.int .u64 (h : Int), .int .u64 (l : Int)]) ∧ Below w.heap.size w w') ∧
    (∀ w, Calls Try.prog 120 #[.int .u64 (h : Int), .int .u64 (l : Int), .int .u64 (m : Int)] w fun e w' => e = .returned (.tuple #[.int .u64 (q : Int), .int .u64 ((mulN a b m : Nat) : Int)]) ∧ Below w.heap.size w w') := by
  refine ⟨a * b / 18446744073709551616, a * b % 18446744073709551616, a * b / m, fun w => ?_, fun w => ?_⟩
  · have m1 := mul64_any a b (by omega) hb w
    rwa [mhi_def, mlo_def] at m1
  · have lh : a * b / 18446744073709551616 < m := by
      rw [Nat.div_lt_iff_lt_mul (by decide)]
      exact Nat.mul_lt_mul_of_lt_of_le ha (by omega) (by omega)
    have d1 := div64_any (a * b / 18446744073709551616) (a * b % 18446744073709551616) m lh hm (Nat.mod_lt _ (by decide)) w
    rw [show a * b / 18446744073709551616 * 18446744073709551616 + a * b % 18446744073709551616 = a * b by rw [Nat.mul_comm]; exact Nat.div_add_mod _ _, ← mulN_def a b m] at d1
    exact d1
set_option maxRecDepth 100000 in
set_option maxHeartbeats 1000000 in
theorem refTimes_any (a b m : Nat) (ha : a < m) (hb : b < m) (hm : m < B) (w : World) : Calls Try.prog 98 #[num a, num b, num m] w fun e w' =>
    e = .returned (num (mulN a b m)) ∧ Below w.heap.size w w' := by
  have bp := B_pos
  have cw := fun w => xCd m hm w
  have lr : mulN a b m < m := by rw [mulN_def]; exact Nat.mod_lt _ (by omega)
  by_cases hs : m < 18446744073709551616
  · rw [decide_eq_true hs] at cw
    have ea : wd a 0 = (a : Int) := by rw [wd_eq]; unfold w64; omega
    have eb : wd b 0 = (b : Int) := by rw [wd_eq]; unfold w64; omega
    have em : wd m 0 = (m : Int) := by rw [wd_eq]; unfold w64; omega
    obtain ⟨h, l, q, m1, d1⟩ := word_pair a b m ha (by omega) hs
    rw [← ea, ← eb] at m1
    rw [← em] at d1
    have o1 := fun w => xCm (mulN a b m) (by omega) w
    generalize mulN a b m = r at *
    clear lr hs ea eb em bp
    have hR := Rep.init w
    go_enter Try.func98, Try.ntmps98
    go_wp2_with (first | (refine' xAb hR rfl rfl rfl ?_; clear hR; intro blk w hR) | (refine' xAa hR rfl rfl inferInstance ?_; clear hR; intro blk w hR) | (refine' aAq hR rfl rfl rfl inferInstance ?_) | (refine' aBq hR rfl rfl rfl inferInstance ?_) | (refine' aCq hR rfl rfl rfl inferInstance ?_) | (refine' aDq hR rfl rfl rfl inferInstance rfl ?_; clear hR; intro w hR) | (refine' aEq hR rfl rfl rfl inferInstance rfl rfl ?_; clear hR; intro w hR) | (go_at_call 95; refine (cw _).mono ?_; rintro e w ⟨rfl, hb⟩; replace hR := hR.call hb; clear hb) | (go_at_call 123; refine (m1 _).mono ?_; rintro e w ⟨rfl, hb⟩; replace hR := hR.call hb; clear hb) | (go_at_call 120; refine (d1 _).mono ?_; rintro e w ⟨rfl, hb⟩; replace hR := hR.call hb; clear hb) | (go_at_call 93; refine (o1 _).mono ?_; rintro e w ⟨rfl, hb⟩; replace hR := hR.call hb; clear hb))
    (refine' bodyPost_ret (xBr Try.results98 rfl (hR.loadAll (P := Try.prog) (ty := 24) ?hm ?hn)) rfl ⟨?_, hR.below⟩; (case hm => first | with_reducible assumption | repeat (first | exact .head _ | apply mT)); (case hn => first | rfl | simp))
    rfl
  · rw [decide_eq_false hs] at cw
    obtain ⟨r, hr⟩ : ∃ r, mulN a b m = r := ⟨_, rfl⟩
    rw [hr]
    rw [mulN_def] at hr
    obtain ⟨l, hll⟩ : ∃ l, a * b % B = l := ⟨_, rfl⟩
    obtain ⟨h, hh⟩ : ∃ h, a * b / B = h := ⟨_, rfl⟩
    have ll : l < B := by rw [← hll]; exact Nat.mod_lt _ bp
    have lh : h < B := by
      rw [← hh, Nat.div_lt_iff_lt_mul bp]
      exact Nat.mul_lt_mul_of_lt_of_le (by omega) (by omega) (by omega)
    have m1 := rm_lit (by omega : a < B) (by omega : b < B) hll hh
    have w1 := rw_lit (r := r) (e := 0) ll lh hm (by
      have e := Nat.div_add_mod (a * b) B
      rw [hll, hh, Nat.mul_comm] at e
      rw [widN_def, if_neg (by omega), e, hr]) (by rw [if_neg (by omega)])
    clear hr lr hs hll hh ll lh bp
    have hR := Rep.init w
    go_enter Try.func98, Try.ntmps98
    go_wp2_with (first | (refine' xAb hR rfl rfl rfl ?_; clear hR; intro blk w hR) | (refine' xAa hR rfl rfl inferInstance ?_; clear hR; intro blk w hR) | (refine' aAq hR rfl rfl rfl inferInstance ?_) | (refine' aBq hR rfl rfl rfl inferInstance ?_) | (refine' aCq hR rfl rfl rfl inferInstance ?_) | (refine' aDq hR rfl rfl rfl inferInstance rfl ?_; clear hR; intro w hR) | (refine' aEq hR rfl rfl rfl inferInstance rfl rfl ?_; clear hR; intro w hR) | (go_at_call 95; refine (cw _).mono ?_; rintro e w ⟨rfl, hb⟩; replace hR := hR.call hb; clear hb) | (go_at_call 132; refine (m1 _).mono ?_; rintro e w ⟨rfl, hb⟩; replace hR := hR.call hb; clear hb) | (go_at_call 133; refine (w1 _).mono ?_; rintro e w ⟨rfl, hb⟩; replace hR := hR.call hb; clear hb))
    (refine' bodyPost_ret (xBr Try.results98 rfl (hR.loadAll (P := Try.prog) (ty := 24) ?hm ?hn)) rfl ⟨?_, hR.below⟩; (case hm => first | with_reducible assumption | repeat (first | exact .head _ | apply mT)); (case hn => first | rfl | simp))
    rfl
set_option maxRecDepth 100000 in
set_option maxHeartbeats 1000000 in
theorem ref04_mul (a b m : Nat) (ha : a < B) (hb : b < B) (hm : m < B) (w : World) : Calls Try.prog 54 #[num a, num b, num m] w fun e w' =>
    e = .returned (.tuple #[num (if okM a b m then mulN a b m else 0), .int .i64 (if okM a b m then 0 else 1)]) ∧ Below w.heap.size w w' := by
  have cm := fun w => refMay_any a b m ha hb hm w
  by_cases ok : okM a b m
  · rw [if_pos ok, if_pos ok]
    rw [decide_eq_true ok] at cm
    have ct := fun w => refTimes_any a b m ok.2.1 ok.2.2 hm w
    generalize mulN a b m = r at *
    clear ok
    have hR := Rep.init w
    go_enter Try.func54, Try.ntmps54
    go_wp2_with (first | (refine' xAb hR rfl rfl rfl ?_; clear hR; intro blk w hR) | (refine' xAa hR rfl rfl inferInstance ?_; clear hR; intro blk w hR) | (refine' aAq hR rfl rfl rfl inferInstance ?_) | (refine' aBq hR rfl rfl rfl inferInstance ?_) | (refine' aCq hR rfl rfl rfl inferInstance ?_) | (refine' aDq hR rfl rfl rfl inferInstance rfl ?_; clear hR; intro w hR) | (refine' aEq hR rfl rfl rfl inferInstance rfl rfl ?_; clear hR; intro w hR) | (go_at_call 94; refine (cm _).mono ?_; rintro e w ⟨rfl, hb⟩; replace hR := hR.call hb; clear hb) | (go_at_call 98; refine (ct _).mono ?_; rintro e w ⟨rfl, hb⟩; replace hR := hR.call hb; clear hb))
    (refine' bodyPost_ret (xBm Try.results54 rfl (hR.loadAll (P := Try.prog) (ty := 24) ?hm ?hn)) rfl ⟨?_, hR.below⟩; (case hm => first | with_reducible assumption | repeat (first | exact .head _ | apply mT)); (case hn => first | rfl | simp))
    rfl
  · rw [if_neg ok, if_neg ok]
    rw [decide_eq_false ok] at cm
    clear ok
    have hR := Rep.init w
    go_enter Try.func54, Try.ntmps54
    go_wp2_with (first | (refine' xAb hR rfl rfl rfl ?_; clear hR; intro blk w hR) | (refine' xAa hR rfl rfl inferInstance ?_; clear hR; intro blk w hR) | (refine' aAq hR rfl rfl rfl inferInstance ?_) | (refine' aBq hR rfl rfl rfl inferInstance ?_) | (refine' aCq hR rfl rfl rfl inferInstance ?_) | (refine' aDq hR rfl rfl rfl inferInstance rfl ?_; clear hR; intro w hR) | (refine' aEq hR rfl rfl rfl inferInstance rfl rfl ?_; clear hR; intro w hR) | (go_at_call 94; refine (cm _).mono ?_; rintro e w ⟨rfl, hb⟩; replace hR := hR.call hb; clear hb))
    (refine' bodyPost_ret (xBm Try.results54 rfl (hR.loadAll (P := Try.prog) (ty := 24) ?hm ?hn)) rfl ⟨?_, hR.below⟩; (case hm => first | with_reducible assumption | repeat (first | exact .head _ | apply mT)); (case hn => first | rfl | simp))
    rw [xCe]
    rfl
end Go.Proofs.Ytdagdfcbnhfdkaa
