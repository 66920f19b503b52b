/- The contract of balefireref07.power. -/
import Derived.Test.YtdagdfcbnhfdkaaMO
import Derived.Test.YtdagdfcbnhfdkaaMRefInv
import Derived.Test.YtdagdfcbnhfdkaaMF
set_option linter.unusedVariables false
set_option linter.unusedSimpArgs false
namespace Go.Proofs.Ytdagdfcbnhfdkaa
open Go.RowKit
attribute [local irreducible] Calls Instr.build Instr.buildSlice
set_option maxRecDepth 100000 in
set_option maxHeartbeats 4000000 in
theorem rpower_any (q M : Nat) (hq : q < B) (hM : M < B) (h2 : 2 ≤ q) (h0 : 0 < M) (w : World) : Calls Try.prog 135 #[num q, num M] w fun e w' => e = .returned (num (mostN q M)) ∧ Below w.heap.size w w' := by
  obtain ⟨n1, hn1⟩ : ∃ n, n = 1 := ⟨_, rfl⟩
  have o1 : ∀ w, Calls Try.prog 93 #[.int .u64 1] w fun e w' => e = .returned (num n1) ∧ Below w.heap.size w w' := fun w => by
    rw [hn1]; exact xCm 1 (by decide) w
  have e1 : q ^ 0 = n1 := by rw [hn1, Nat.pow_zero]
  replace hn1 := Held.mk hn1
  have hR := Rep.init w
  obtain ⟨W, hW⟩ : ∃ x, x = w := ⟨_, rfl⟩
  subst hW
  go_enter Try.func135, Try.ntmps135
  go_wp2_with (first | (refine' xAb hR rfl rfl rfl ?_; clear hR; intro blk w hR) | (refine' xAa hR rfl rfl inferInstance ?_; clear hR; intro blk w hR) | (refine' aFq hR rfl rfl rfl inferInstance ?_) | (refine' aGq hR rfl rfl rfl inferInstance ?_) | (refine' aHq hR rfl rfl rfl inferInstance ?_) | (refine' aDq hR rfl rfl rfl inferInstance rfl ?_; clear hR; intro w hR) | (refine' aEq hR rfl rfl rfl inferInstance rfl rfl ?_; clear hR; intro w hR) | (go_at_call 93; refine (o1 _).mono ?_; rintro e w ⟨rfl, hb⟩; replace hR := hR.call hb; clear hb))
  rename_i b2 u2 b3 u3 b4 u4 b5 u5
  obtain ⟨b5, hb5⟩ : ∃ x, x = blk := ⟨_, rfl⟩
  subst hb5
  simp only [Act.put, kA, kB, List.setIfInBounds_toArray]
  refine' xCk (B0 := W.heap.size) (w0 := W) (false :: false :: false :: false :: false :: false :: true :: true :: true :: true :: true :: false :: true :: true :: true :: true :: true :: true :: true :: true :: true :: true :: true :: true :: true :: true :: true :: true :: true :: true :: true :: true :: true :: true :: true :: true :: true :: true :: true :: true :: []) (fun (e : Nat) l => l) (fun e => (b5, .cells (nl (q ^ e)).toArray 24) :: (b4, .cells [Value.int .u64 0, Value.int .u64 0, Value.int .u64 0, Value.int .u64 0].toArray 24) :: (b3, .cells (nl M).toArray 24) :: (b2, .cells (nl q).toArray 24) :: []) (fun e => M - q ^ e) (fun e => q ^ e ∣ M) 0 ?h0 ?hO ?hR ?hs
  case h0 => exact xBg rfl rfl rfl
  case hO => show q ^ 0 ∣ M; rw [Nat.pow_zero]; exact Nat.one_dvd M
  case hR => simp only [e1]; exact hR
  case hs =>
    clear hR e1 hn1 o1
    intro e tm w hO ht hR K hK
    have hle : q ^ e ≤ M := Nat.le_of_dvd h0 hO
    have hpos : 0 < q ^ e := Nat.pow_pos (by omega)
    have hmost : ¬ q ^ (e + 1) ∣ M → mostN q M = q ^ e := fun h => mostN_is ⟨e, rfl, hO, h⟩
    have hqe1 : q ^ (e + 1) = q ^ e * q := Nat.pow_succ q e
    obtain ⟨o, ho⟩ : ∃ a, q ^ e = a := ⟨_, rfl⟩
    have hlt : ∀ x, M - x < M - o → M - x < M - q ^ e := fun x h => by rw [ho]; exact h
    simp only [ho] at hR hmost hqe1
    rw [ho] at hle hpos
    have oB : o < B := by omega
    obtain ⟨nx, hnx⟩ : ∃ x, o * q % B = x := ⟨_, rfl⟩
    obtain ⟨hb, hhb⟩ : ∃ x, o * q / B = x := ⟨_, rfl⟩
    have nB : nx < B := by rw [← hnx]; exact Nat.mod_lt _ B_pos
    have hbB : hb < B := by rw [← hhb, Nat.div_lt_iff_lt_mul B_pos]; exact Nat.mul_lt_mul'' oB hq
    have m1 := rm_lit oB hq hnx hhb
    have hsum := Nat.div_add_mod (o * q) B
    rw [hnx, hhb] at hsum
    by_cases hz : hb = 0
    case neg =>
      have eb : eqN hb 0 = false := xBz hbB B_pos hz
      have hres := hmost (fun hd => by
        rw [hqe1] at hd
        have := Nat.le_of_dvd h0 hd
        have : B * 1 ≤ B * hb := Nat.mul_le_mul_left B (by omega)
        omega)
      replace hres := Held.mk hres
      clear hlt hmost hle hpos hO hz ho hqe1 hK hnx hhb hsum oB nB hbB
      repeat (first | (obtain ⟨x, tm', e, ht'⟩ := xAu ht; clear ht; subst e; have ht := ht'; clear ht') | (obtain ⟨tm', e, ht'⟩ := xAj ht; clear ht; subst e; have ht := ht'; clear ht'))
      obtain rfl := xAy ht
      clear ht
      go_wp2_with (first | (refine' xAb hR rfl rfl rfl ?_; clear hR; intro blk w hR) | (refine' xAa hR rfl rfl inferInstance ?_; clear hR; intro blk w hR) | (refine' aFq hR rfl rfl rfl inferInstance ?_) | (refine' aGq hR rfl rfl rfl inferInstance ?_) | (refine' aHq hR rfl rfl rfl inferInstance ?_) | (refine' aDq hR rfl rfl rfl inferInstance rfl ?_; clear hR; intro w hR) | (refine' aEq hR rfl rfl rfl inferInstance rfl rfl ?_; clear hR; intro w hR) | (refine' xAg hR rfl rfl rfl inferInstance ?hm ?hn ?_; (case hm => first | with_reducible assumption | repeat (first | exact .head _ | with_reducible assumption | apply mC)); (case hn => first | rfl | simp)) | (refine' xAc hR rfl rfl rfl inferInstance ?hm ?hv ?_; (case hm => first | with_reducible assumption | repeat (first | exact .head _ | with_reducible assumption | apply mC)); (case hv => first | rfl | with_reducible assumption)) | (go_at_call 132; refine (m1 _).mono ?_; rintro e w ⟨rfl, hb⟩; replace hR := hR.call hb; clear hb))
      (refine' bodyPost_ret (xBr Try.results135 rfl (hR.loadAll (P := Try.prog) (ty := 24) ?hm ?hn)) rfl ⟨?_, hR.below⟩; (case hm => first | with_reducible assumption | repeat (first | exact .head _ | with_reducible assumption | apply mC)); (case hn => first | rfl | simp))
      rw [hres.out]
    have eb : eqN hb 0 = true := xBw hz
    have hnxe : nx = o * q := by rw [hz] at hsum; omega
    have nx0 : nx ≠ 0 := by
      rw [hnxe]
      exact Nat.mul_ne_zero (by omega) (by omega)
    obtain ⟨qq, hqq⟩ : ∃ x, quo0 M nx = x := ⟨_, rfl⟩
    obtain ⟨r, hr⟩ : ∃ r, M % nx = r := ⟨_, rfl⟩
    have rB : r < B := by rw [← hr]; exact Nat.lt_trans (Nat.mod_lt _ (by omega)) nB
    have d1 := rd_lit (e := 0) hM nB hqq (show rem0 M nx = r by rw [rem0_pos nx0, hr]) (if_neg nx0)
    by_cases hr0 : r = 0
    case neg =>
      have er : eqN r 0 = false := xBz rB B_pos hr0
      have hres := hmost (fun hd => hr0 (by rw [← hr, hnxe, ← hqe1]; exact Nat.mod_eq_zero_of_dvd hd))
      replace hres := Held.mk hres
      clear hlt hmost hle hpos hO hz ho hqe1 hK hnx hhb hsum oB nB hbB hr hr0 hqq nx0 hnxe rB
      repeat (first | (obtain ⟨x, tm', e, ht'⟩ := xAu ht; clear ht; subst e; have ht := ht'; clear ht') | (obtain ⟨tm', e, ht'⟩ := xAj ht; clear ht; subst e; have ht := ht'; clear ht'))
      obtain rfl := xAy ht
      clear ht
      go_wp2_with (first | go_skip | (refine' xAb hR rfl rfl rfl ?_; clear hR; intro blk w hR) | (refine' xAa hR rfl rfl inferInstance ?_; clear hR; intro blk w hR) | (refine' aFq hR rfl rfl rfl inferInstance ?_) | (refine' aGq hR rfl rfl rfl inferInstance ?_) | (refine' aHq hR rfl rfl rfl inferInstance ?_) | (refine' aDq hR rfl rfl rfl inferInstance rfl ?_; clear hR; intro w hR) | (refine' aEq hR rfl rfl rfl inferInstance rfl rfl ?_; clear hR; intro w hR) | (refine' xAg hR rfl rfl rfl inferInstance ?hm ?hn ?_; (case hm => first | with_reducible assumption | repeat (first | exact .head _ | with_reducible assumption | apply mC)); (case hn => first | rfl | simp)) | (refine' xAc hR rfl rfl rfl inferInstance ?hm ?hv ?_; (case hm => first | with_reducible assumption | repeat (first | exact .head _ | with_reducible assumption | apply mC)); (case hv => first | rfl | with_reducible assumption)) | (refine' xAz hR rfl rfl rfl inferInstance ?hm ?hv ?hn ?_; (case hm => first | with_reducible assumption | repeat (first | exact .head _ | with_reducible assumption | apply mC)); (case hv => first | with_reducible assumption | (simp only [kC, kD, kE, kF]; try rfl)); (case hn => first | rfl | simp)) | (go_at_call 132; refine (m1 _).mono ?_; rintro e w ⟨rfl, hb⟩; replace hR := hR.call hb; clear hb) | (go_at_call 60; refine (d1 _).mono ?_; rintro e w ⟨rfl, hb⟩; replace hR := hR.call hb; clear hb))
      (refine' bodyPost_ret (xBr Try.results135 rfl (hR.loadAll (P := Try.prog) (ty := 24) ?hm ?hn)) rfl ⟨?_, hR.below⟩; (case hm => first | with_reducible assumption | repeat (first | exact .head _ | with_reducible assumption | apply mC)); (case hn => first | rfl | simp))
      rw [hres.out]
    have er : eqN r 0 = true := xBw hr0
    have hd : q ^ (e + 1) ∣ M := by rw [hqe1, ← hnxe]; exact Nat.dvd_of_mod_eq_zero (by rw [hr, hr0])
    have hnM : nx ≤ M := by rw [hnxe, ← hqe1]; exact Nat.le_of_dvd h0 hd
    obtain ⟨c, hc⟩ : ∃ c, cmpN nx M = c := ⟨_, rfl⟩
    have c1 := rc_lit nB hM hc
    have c1' : decide (0 < c) = false := decide_eq_false fun h => by
      rw [← hc, cmpN_gt] at h
      omega
    have c1'' : ¬ 0 < c := of_decide_eq_false c1'
    have hmu := hlt nx (by
      have : o * 2 ≤ o * q := Nat.mul_le_mul_left o h2
      omega)
    have hqn : q ^ (e + 1) = nx := by rw [hqe1, hnxe]
    replace hd := Held.mk hd
    replace hmu := Held.mk hmu
    replace hqn := Held.mk hqn
    clear hlt hmost hle hpos hO hz ho hqe1 hnx hhb hsum oB nB hbB hr hr0 hqq nx0 hnxe rB hnM hc
    repeat (first | (obtain ⟨x, tm', e, ht'⟩ := xAu ht; clear ht; subst e; have ht := ht'; clear ht') | (obtain ⟨tm', e, ht'⟩ := xAj ht; clear ht; subst e; have ht := ht'; clear ht'))
    obtain rfl := xAy ht
    clear ht
    go_wp2_with (first | go_skip | (refine' xAb hR rfl rfl rfl ?_; clear hR; intro blk w hR) | (refine' xAa hR rfl rfl inferInstance ?_; clear hR; intro blk w hR) | (refine' aFq hR rfl rfl rfl inferInstance ?_) | (refine' aGq hR rfl rfl rfl inferInstance ?_) | (refine' aHq hR rfl rfl rfl inferInstance ?_) | (refine' aDq hR rfl rfl rfl inferInstance rfl ?_; clear hR; intro w hR) | (refine' aEq hR rfl rfl rfl inferInstance rfl rfl ?_; clear hR; intro w hR) | (refine' xAg hR rfl rfl rfl inferInstance ?hm ?hn ?_; (case hm => first | with_reducible assumption | repeat (first | exact .head _ | with_reducible assumption | apply mC)); (case hn => first | rfl | simp)) | (refine' xAc hR rfl rfl rfl inferInstance ?hm ?hv ?_; (case hm => first | with_reducible assumption | repeat (first | exact .head _ | with_reducible assumption | apply mC)); (case hv => first | rfl | with_reducible assumption)) | (refine' xAz hR rfl rfl rfl inferInstance ?hm ?hv ?hn ?_; (case hm => first | with_reducible assumption | repeat (first | exact .head _ | with_reducible assumption | apply mC)); (case hv => first | with_reducible assumption | (simp only [kC, kD, kE, kF]; try rfl)); (case hn => first | rfl | simp)) | (go_at_call 132; refine (m1 _).mono ?_; rintro e w ⟨rfl, hb⟩; replace hR := hR.call hb; clear hb) | (go_at_call 60; refine (d1 _).mono ?_; rintro e w ⟨rfl, hb⟩; replace hR := hR.call hb; clear hb) | (go_at_call 50; refine (c1 _).mono ?_; rintro e w ⟨rfl, hb⟩; replace hR := hR.call hb; clear hb))
    refine hK.out (e + 1) _ _ hd.out ?_ (by exact xBg rfl rfl rfl) ?_
    · show M - q ^ (e + 1) < M - q ^ e
      rw [hqn.out]; exact hmu.out
    · simp only [hqn.out]
      exact hR.drop1.drop1.drop1.drop1
end Go.Proofs.Ytdagdfcbnhfdkaa
