/- The contracts of the deeds of mods: sums, differences, products. -/
import Derived.Test.YthbcgcncoggagaaVM
import Derived.Test.YthbcgcncoggagaaVA
set_option linter.unusedVariables false
set_option linter.unusedSimpArgs false
namespace Go.Proofs.Ythbcgcncoggagaa
open Go.RowKit
attribute [local irreducible] Calls
theorem s_lit {a b d : Nat} {c : Int} (ha : a < B) (hb : b < B) (hd : (a + B - b) % B = d) (hc : bor (a : Int) (b : Int) = c) (w : World) : Calls Try.prog 36 #[num a, num b] w fun e w' =>
    e = .returned (.tuple #[num d, .int .u64 c]) ∧ Below w.heap.size w w' := by
  have := sub_any a b ha hb w
  rw [hc, ← num_mod (a + B - b), hd] at this
  exact this
set_option maxRecDepth 100000 in
set_option maxHeartbeats 1000000 in
theorem addm_any (a b m : Nat) (ha : a < m) (hb : b < m) (hm : m < B) (w : World) : Calls Try.prog 151 #[num a, num b, num m] w fun e w' =>
    e = .returned (num ((a + b) % m)) ∧ Below w.heap.size w w' := by
  have bp := B_pos
  obtain ⟨x, hx⟩ : ∃ x, (a + b) % B = x := ⟨_, rfl⟩
  obtain ⟨k, hk⟩ : ∃ k, (a + b) / B = k := ⟨_, rfl⟩
  have hdm := Nat.div_add_mod (a + b) B
  rw [hx, hk] at hdm
  have lx : x < B := by rw [← hx]; exact Nat.mod_lt _ bp
  have lk : k < 2 := by rw [← hk, Nat.div_lt_iff_lt_mul bp]; omega
  obtain ⟨y, hy⟩ : ∃ y, (x + B - m) % B = y := ⟨_, rfl⟩
  have s1 := a_lit (c := (k : Int)) (by omega : a < B) (by omega : b < B) hx (by rw [hk])
  have d1 := s_lit lx hm hy rfl
  have hbor := bor_def (x : Int) (m : Int)
  by_cases hc : m ≤ a + b
  · have hr : (a + b) % m = a + b - m := by rw [Nat.mod_eq_sub_mod hc, Nat.mod_eq_of_lt (by omega)]
    have ey : y = (a + b) % m := by
      rw [hr, ← hy]
      have : k = 0 ∨ k = 1 := by omega
      rcases this with rfl | rfl
      · rw [show x + B - m = (a + b - m) + B by omega, Nat.add_mod_right, Nat.mod_eq_of_lt (by omega)]
      · rw [show x + B - m = a + b - m by omega, Nat.mod_eq_of_lt (by omega)]
    rw [← ey]
    have hcase : (k : Int) = 1 ∨ ((k : Int) = 0 ∧ bor (x : Int) (m : Int) = 0) := by
      have : k = 0 ∨ k = 1 := by omega
      rcases this with rfl | rfl
      · right
        refine ⟨rfl, ?_⟩
        rw [hbor, if_neg (by omega)]
      · exact .inl rfl
    generalize bor (x : Int) (m : Int) = l at *
    clear hbor hc hr ey hx hk hdm lx lk hy bp
    generalize (k : Int) = k at *
    have hR := Rep.init w
    rcases hcase with rfl | ⟨rfl, rfl⟩
    all_goals
      go_enter Try.func151, Try.ntmps151
      go_wp2_with (first | (refine' xAe hR rfl rfl rfl ?_; clear hR; intro blk w hR) | (refine' xAb hR rfl rfl inferInstance ?_; clear hR; intro blk w hR) | (refine' xAc hR rfl rfl rfl inferInstance ?hm ?hn ?_; (case hm => first | with_reducible assumption | repeat (first | exact .head _ | apply mT)); (case hn => first | rfl | simp)) | (refine' xAd hR rfl rfl rfl inferInstance ?hm ?hv ?hn ?_; (case hm => first | with_reducible assumption | repeat (first | exact .head _ | apply mT)); (case hv => first | with_reducible assumption | (simp only [kC, kD, kE, kF]; try rfl)); (case hn => first | rfl | simp)) | (refine' xBg hR rfl rfl rfl inferInstance ?hm ?hv ?_; (case hm => first | with_reducible assumption | repeat (first | exact .head _ | apply mT)); (case hv => first | rfl | with_reducible assumption)) | (refine' xAa hR rfl rfl rfl inferInstance rfl ?hs ?zone ?zvn ?hn ?_; (case hs => repeat (first | exact xAf.head | apply xAf.tail)); (case zone => first | rfl | with_reducible assumption); (case zvn => first | rfl | simp); (case hn => first | rfl | simp); clear hR; intro w hR) | (refine' xBe hR rfl rfl rfl inferInstance rfl rfl ?hs ?hn ?hl ?_; (case hs => repeat (first | exact xAf.head | apply xAf.tail)); (case hn => first | exact oD rfl | (show _ < 4; with_reducible assumption) | (simp; try omega)); (case hl => first | with_reducible assumption | (simp only [nl, kA, kB]; first | done | rfl) | rfl); clear hR; intro w hR) | (go_at_call 141; refine (s1 _).mono ?_; rintro e w ⟨rfl, hb⟩; replace hR := hR.call hb; clear hb) | (go_at_call 36; refine (d1 _).mono ?_; rintro e w ⟨rfl, hb⟩; replace hR := hR.call hb; clear hb))
      (refine' bodyPost_ret (xBt Try.results151 rfl (hR.loadAll (P := Try.prog) (ty := 24) ?hm ?hn)) rfl ⟨?_, hR.below⟩; (case hm => first | with_reducible assumption | repeat (first | exact .head _ | apply mT)); (case hn => first | rfl | simp))
      rfl
  · have hr : (a + b) % m = x := by
      rw [Nat.mod_eq_of_lt (by omega), ← hx, Nat.mod_eq_of_lt (by omega)]
    have k0 : (k : Int) = 0 := by
      rw [← hk, Nat.div_eq_of_lt (by omega)]; rfl
    have b1 : bor (x : Int) (m : Int) = 1 := by
      rw [hbor, if_pos]
      rw [← hx, Nat.mod_eq_of_lt (by omega)]; omega
    rw [hr]
    rw [k0] at s1
    rw [b1] at d1
    clear hbor hc hr hx hk hdm lx lk hy bp k0 b1
    have hR := Rep.init w
    go_enter Try.func151, Try.ntmps151
    go_wp2_with (first | (refine' xAe hR rfl rfl rfl ?_; clear hR; intro blk w hR) | (refine' xAb hR rfl rfl inferInstance ?_; clear hR; intro blk w hR) | (refine' xAc hR rfl rfl rfl inferInstance ?hm ?hn ?_; (case hm => first | with_reducible assumption | repeat (first | exact .head _ | apply mT)); (case hn => first | rfl | simp)) | (refine' xAd hR rfl rfl rfl inferInstance ?hm ?hv ?hn ?_; (case hm => first | with_reducible assumption | repeat (first | exact .head _ | apply mT)); (case hv => first | with_reducible assumption | (simp only [kC, kD, kE, kF]; try rfl)); (case hn => first | rfl | simp)) | (refine' xBg hR rfl rfl rfl inferInstance ?hm ?hv ?_; (case hm => first | with_reducible assumption | repeat (first | exact .head _ | apply mT)); (case hv => first | rfl | with_reducible assumption)) | (refine' xAa hR rfl rfl rfl inferInstance rfl ?hs ?zone ?zvn ?hn ?_; (case hs => repeat (first | exact xAf.head | apply xAf.tail)); (case zone => first | rfl | with_reducible assumption); (case zvn => first | rfl | simp); (case hn => first | rfl | simp); clear hR; intro w hR) | (refine' xBe hR rfl rfl rfl inferInstance rfl rfl ?hs ?hn ?hl ?_; (case hs => repeat (first | exact xAf.head | apply xAf.tail)); (case hn => first | exact oD rfl | (show _ < 4; with_reducible assumption) | (simp; try omega)); (case hl => first | with_reducible assumption | (simp only [nl, kA, kB]; first | done | rfl) | rfl); clear hR; intro w hR) | (go_at_call 141; refine (s1 _).mono ?_; rintro e w ⟨rfl, hb⟩; replace hR := hR.call hb; clear hb) | (go_at_call 36; refine (d1 _).mono ?_; rintro e w ⟨rfl, hb⟩; replace hR := hR.call hb; clear hb))
    (refine' bodyPost_ret (xBt Try.results151 rfl (hR.loadAll (P := Try.prog) (ty := 24) ?hm ?hn)) rfl ⟨?_, hR.below⟩; (case hm => first | with_reducible assumption | repeat (first | exact .head _ | apply mT)); (case hn => first | rfl | simp))
    rfl
noncomputable def subN : Nat → Nat → Nat → Nat := opq fun a b m => (a + (m - b)) % m
theorem subN_def (a b m : Nat) : subN a b m = (a + (m - b)) % m := by unfold subN; rw [xCb]
set_option maxRecDepth 100000 in
set_option maxHeartbeats 1000000 in
theorem subm_any (a b m : Nat) (ha : a < m) (hb : b < m) (hm : m < B) (w : World) : Calls Try.prog 142 #[num a, num b, num m] w fun e w' =>
    e = .returned (num (subN a b m)) ∧ Below w.heap.size w w' := by
  have bp := B_pos
  obtain ⟨x, hx⟩ : ∃ x, (a + B - b) % B = x := ⟨_, rfl⟩
  have lx : x < B := by rw [← hx]; exact Nat.mod_lt _ bp
  obtain ⟨r, hr⟩ : ∃ r, subN a b m = r := ⟨_, rfl⟩
  rw [hr]
  rw [subN_def] at hr
  by_cases hc : a < b
  · have d1 := s_lit (c := 1) (by omega : a < B) (by omega : b < B) hx (by rw [bor_def, if_pos (by omega)])
    have e1 : x = a + B - b := by rw [← hx, Nat.mod_eq_of_lt (by omega)]
    have e2 : r = a + (m - b) := by rw [← hr, Nat.mod_eq_of_lt (by omega)]
    obtain ⟨c, hcc⟩ : ∃ c : Int, (((x + m) / B : Nat) : Int) = c := ⟨_, rfl⟩
    have s1 := a_lit (s := r) lx hm (by rw [e1, e2, show a + B - b + m = (a + (m - b)) + B by omega, Nat.add_mod_right, Nat.mod_eq_of_lt (by omega)]) hcc
    clear bp hx lx hr hc e1 e2 hcc
    have hR := Rep.init w
    go_enter Try.func142, Try.ntmps142
    go_wp2_with (first | (refine' xAe hR rfl rfl rfl ?_; clear hR; intro blk w hR) | (refine' xAb hR rfl rfl inferInstance ?_; clear hR; intro blk w hR) | (refine' xAc hR rfl rfl rfl inferInstance ?hm ?hn ?_; (case hm => first | with_reducible assumption | repeat (first | exact .head _ | apply mT)); (case hn => first | rfl | simp)) | (refine' xAd hR rfl rfl rfl inferInstance ?hm ?hv ?hn ?_; (case hm => first | with_reducible assumption | repeat (first | exact .head _ | apply mT)); (case hv => first | with_reducible assumption | (simp only [kC, kD, kE, kF]; try rfl)); (case hn => first | rfl | simp)) | (refine' xBg hR rfl rfl rfl inferInstance ?hm ?hv ?_; (case hm => first | with_reducible assumption | repeat (first | exact .head _ | apply mT)); (case hv => first | rfl | with_reducible assumption)) | (refine' xAa hR rfl rfl rfl inferInstance rfl ?hs ?zone ?zvn ?hn ?_; (case hs => repeat (first | exact xAf.head | apply xAf.tail)); (case zone => first | rfl | with_reducible assumption); (case zvn => first | rfl | simp); (case hn => first | rfl | simp); clear hR; intro w hR) | (refine' xBe hR rfl rfl rfl inferInstance rfl rfl ?hs ?hn ?hl ?_; (case hs => repeat (first | exact xAf.head | apply xAf.tail)); (case hn => first | exact oD rfl | (show _ < 4; with_reducible assumption) | (simp; try omega)); (case hl => first | with_reducible assumption | (simp only [nl, kA, kB]; first | done | rfl) | rfl); clear hR; intro w hR) | (go_at_call 141; refine (s1 _).mono ?_; rintro e w ⟨rfl, hb⟩; replace hR := hR.call hb; clear hb) | (go_at_call 36; refine (d1 _).mono ?_; rintro e w ⟨rfl, hb⟩; replace hR := hR.call hb; clear hb))
    (refine' bodyPost_ret (xBt Try.results142 rfl (hR.loadAll (P := Try.prog) (ty := 24) ?hm ?hn)) rfl ⟨?_, hR.below⟩; (case hm => first | with_reducible assumption | repeat (first | exact .head _ | apply mT)); (case hn => first | rfl | simp))
    rfl
  · have d1 := s_lit (c := 0) (by omega : a < B) (by omega : b < B) hx (by rw [bor_def, if_neg (by omega)])
    have e2 : r = x := by
      rw [← hr, ← hx, show a + (m - b) = (a - b) + m by omega, Nat.add_mod_right, Nat.mod_eq_of_lt (by omega), show a + B - b = (a - b) + B by omega, Nat.add_mod_right, Nat.mod_eq_of_lt (by omega)]
    rw [e2]
    clear bp hx lx hr hc e2
    have hR := Rep.init w
    go_enter Try.func142, Try.ntmps142
    go_wp2_with (first | (refine' xAe hR rfl rfl rfl ?_; clear hR; intro blk w hR) | (refine' xAb hR rfl rfl inferInstance ?_; clear hR; intro blk w hR) | (refine' xAc hR rfl rfl rfl inferInstance ?hm ?hn ?_; (case hm => first | with_reducible assumption | repeat (first | exact .head _ | apply mT)); (case hn => first | rfl | simp)) | (refine' xAd hR rfl rfl rfl inferInstance ?hm ?hv ?hn ?_; (case hm => first | with_reducible assumption | repeat (first | exact .head _ | apply mT)); (case hv => first | with_reducible assumption | (simp only [kC, kD, kE, kF]; try rfl)); (case hn => first | rfl | simp)) | (refine' xBg hR rfl rfl rfl inferInstance ?hm ?hv ?_; (case hm => first | with_reducible assumption | repeat (first | exact .head _ | apply mT)); (case hv => first | rfl | with_reducible assumption)) | (refine' xAa hR rfl rfl rfl inferInstance rfl ?hs ?zone ?zvn ?hn ?_; (case hs => repeat (first | exact xAf.head | apply xAf.tail)); (case zone => first | rfl | with_reducible assumption); (case zvn => first | rfl | simp); (case hn => first | rfl | simp); clear hR; intro w hR) | (refine' xBe hR rfl rfl rfl inferInstance rfl rfl ?hs ?hn ?hl ?_; (case hs => repeat (first | exact xAf.head | apply xAf.tail)); (case hn => first | exact oD rfl | (show _ < 4; with_reducible assumption) | (simp; try omega)); (case hl => first | with_reducible assumption | (simp only [nl, kA, kB]; first | done | rfl) | rfl); clear hR; intro w hR) | (go_at_call 36; refine (d1 _).mono ?_; rintro e w ⟨rfl, hb⟩; replace hR := hR.call hb; clear hb))
    (refine' bodyPost_ret (xBt Try.results142 rfl (hR.loadAll (P := Try.prog) (ty := 24) ?hm ?hn)) rfl ⟨?_, hR.below⟩; (case hm => first | with_reducible assumption | repeat (first | exact .head _ | apply mT)); (case hn => first | rfl | simp))
    rfl
end Go.Proofs.Ythbcgcncoggagaa
namespace Go.Proofs.Ythbcgcncoggagaa
open Go.RowKit
attribute [local irreducible] Calls
set_option maxRecDepth 100000 in
set_option maxHeartbeats 1000000 in
theorem word_any (a b m : Nat) (ha : a < m) (hb : b < 18446744073709551616) (hm : m < 18446744073709551616) (w : World) : Calls Try.prog 91 #[.int .u64 (a : Int), .int .u64 (b : Int), .int .u64 (m : Int)] w fun e w' =>
    e = .returned (.int .u64 ((a * b % m : Nat) : Int)) ∧ Below w.heap.size w w' := by
  obtain ⟨h, hh⟩ : ∃ h, a * b / 18446744073709551616 = h := ⟨_, rfl⟩
  obtain ⟨l, hl⟩ : ∃ l, a * b % 18446744073709551616 = l := ⟨_, rfl⟩
  have e := Nat.div_add_mod (a * b) 18446744073709551616
  have lh : h < m := by
    rw [← hh, Nat.div_lt_iff_lt_mul (by decide)]
    exact Nat.mul_lt_mul_of_lt_of_le ha (by omega) (by omega)
  have ll : l < 18446744073709551616 := by rw [← hl]; exact Nat.mod_lt _ (by decide)
  have m1 := fun w => mul64_any a b (by omega) hb w
  rw [mhi_def, mlo_def, hh, hl] at m1
  have d1 := fun w => div64_any h l m lh hm ll w
  rw [show h * 18446744073709551616 + l = a * b by rw [← e, hh, hl, Nat.mul_comm]] at d1
  obtain ⟨q, hq⟩ : ∃ q, a * b / m = q := ⟨_, rfl⟩
  obtain ⟨r, hr⟩ : ∃ r, a * b % m = r := ⟨_, rfl⟩
  rw [hq, hr] at d1
  rw [hr]
  clear hh hl e lh ll hq hr
  have hR := Rep.init w
  go_enter Try.func91, Try.ntmps91
  go_wp2_with (first | (refine' xAe hR rfl rfl rfl ?_; clear hR; intro blk w hR) | (refine' xAb hR rfl rfl inferInstance ?_; clear hR; intro blk w hR) | (refine' xAc hR rfl rfl rfl inferInstance ?hm ?hn ?_; (case hm => first | with_reducible assumption | repeat (first | exact .head _ | apply mT)); (case hn => first | rfl | simp)) | (refine' xAd hR rfl rfl rfl inferInstance ?hm ?hv ?hn ?_; (case hm => first | with_reducible assumption | repeat (first | exact .head _ | apply mT)); (case hv => first | with_reducible assumption | (simp only [kC, kD, kE, kF]; try rfl)); (case hn => first | rfl | simp)) | (refine' xBg hR rfl rfl rfl inferInstance ?hm ?hv ?_; (case hm => first | with_reducible assumption | repeat (first | exact .head _ | apply mT)); (case hv => first | rfl | with_reducible assumption)) | (refine' xAa hR rfl rfl rfl inferInstance rfl ?hs ?zone ?zvn ?hn ?_; (case hs => repeat (first | exact xAf.head | apply xAf.tail)); (case zone => first | rfl | with_reducible assumption); (case zvn => first | rfl | simp); (case hn => first | rfl | simp); clear hR; intro w hR) | (refine' xBe hR rfl rfl rfl inferInstance rfl rfl ?hs ?hn ?hl ?_; (case hs => repeat (first | exact xAf.head | apply xAf.tail)); (case hn => first | exact oD rfl | (show _ < 4; with_reducible assumption) | (simp; try omega)); (case hl => first | with_reducible assumption | (simp only [nl, kA, kB]; first | done | rfl) | rfl); clear hR; intro w hR) | (go_at_call 138; refine (m1 _).mono ?_; rintro e w ⟨rfl, hb⟩; replace hR := hR.call hb; clear hb) | (go_at_call 85; refine (d1 _).mono ?_; rintro e w ⟨rfl, hb⟩; replace hR := hR.call hb; clear hb))
  go_ret
  exact ⟨rfl, hR.below⟩
noncomputable def mulN : Nat → Nat → Nat → Nat := opq fun a b m => a * b % m
theorem mulN_def (a b m : Nat) : mulN a b m = a * b % m := by unfold mulN; rw [xCb]
set_option maxRecDepth 100000 in
set_option maxHeartbeats 1000000 in
theorem timesm_any (a b m : Nat) (ha : a < m) (hb : b < m) (hm : m < B) (w : World) : Calls Try.prog 94 #[num a, num b, num m] w fun e w' =>
    e = .returned (num (mulN a b m)) ∧ Below w.heap.size w w' := by
  have bp := B_pos
  have cb := fun w => bits_any m hm w
  obtain ⟨r, hr⟩ : ∃ r, mulN a b m = r := ⟨_, rfl⟩
  rw [hr]
  rw [mulN_def] at hr
  have lr : r < m := by rw [← hr]; exact Nat.mod_lt _ (by omega)
  by_cases hs : m < 18446744073709551616
  · have hl : (blen m : Int) ≤ 64 := by
      have := (xBy m 64).mpr hs
      omega
    have ea : wd a 0 = (a : Int) := by rw [wd_eq]; unfold w64; omega
    have eb : wd b 0 = (b : Int) := by rw [wd_eq]; unfold w64; omega
    have em : wd m 0 = (m : Int) := by rw [wd_eq]; unfold w64; omega
    have w1 := fun w => word_any a b m ha (by omega) hs w
    rw [hr, ← ea, ← eb, ← em] at w1
    have o1 := fun w => of_any r (by omega) w
    generalize (blen m : Int) = bl at *
    clear hr lr hs ea eb em bp
    have hR := Rep.init w
    go_enter Try.func94, Try.ntmps94
    go_wp2_with (first | (refine' xAe hR rfl rfl rfl ?_; clear hR; intro blk w hR) | (refine' xAb hR rfl rfl inferInstance ?_; clear hR; intro blk w hR) | (refine' xAc hR rfl rfl rfl inferInstance ?hm ?hn ?_; (case hm => first | with_reducible assumption | repeat (first | exact .head _ | apply mT)); (case hn => first | rfl | simp)) | (refine' xAd hR rfl rfl rfl inferInstance ?hm ?hv ?hn ?_; (case hm => first | with_reducible assumption | repeat (first | exact .head _ | apply mT)); (case hv => first | with_reducible assumption | (simp only [kC, kD, kE, kF]; try rfl)); (case hn => first | rfl | simp)) | (refine' xBg hR rfl rfl rfl inferInstance ?hm ?hv ?_; (case hm => first | with_reducible assumption | repeat (first | exact .head _ | apply mT)); (case hv => first | rfl | with_reducible assumption)) | (refine' xAa hR rfl rfl rfl inferInstance rfl ?hs ?zone ?zvn ?hn ?_; (case hs => repeat (first | exact xAf.head | apply xAf.tail)); (case zone => first | rfl | with_reducible assumption); (case zvn => first | rfl | simp); (case hn => first | rfl | simp); clear hR; intro w hR) | (refine' xBe hR rfl rfl rfl inferInstance rfl rfl ?hs ?hn ?hl ?_; (case hs => repeat (first | exact xAf.head | apply xAf.tail)); (case hn => first | exact oD rfl | (show _ < 4; with_reducible assumption) | (simp; try omega)); (case hl => first | with_reducible assumption | (simp only [nl, kA, kB]; first | done | rfl) | rfl); clear hR; intro w hR) | (go_at_call 34; refine (cb _).mono ?_; rintro e w ⟨rfl, hb⟩; replace hR := hR.call hb; clear hb) | (go_at_call 91; refine (w1 _).mono ?_; rintro e w ⟨rfl, hb⟩; replace hR := hR.call hb; clear hb) | (go_at_call 57; refine (o1 _).mono ?_; rintro e w ⟨rfl, hb⟩; replace hR := hR.call hb; clear hb))
    (refine' bodyPost_ret (xBt Try.results94 rfl (hR.loadAll (P := Try.prog) (ty := 24) ?hm ?hn)) rfl ⟨?_, hR.below⟩; (case hm => first | with_reducible assumption | repeat (first | exact .head _ | apply mT)); (case hn => first | rfl | simp))
    rfl
  · have hl : ¬ (blen m : Int) ≤ 64 := fun h => hs ((xBy m 64).mp (by omega))
    obtain ⟨l, hll⟩ : ∃ l, a * b % B = l := ⟨_, rfl⟩
    obtain ⟨h, hh⟩ : ∃ h, a * b / B = h := ⟨_, rfl⟩
    have ll : l < B := by rw [← hll]; exact Nat.mod_lt _ bp
    have lh : h < B := by
      rw [← hh, Nat.div_lt_iff_lt_mul bp]
      exact Nat.mul_lt_mul_of_lt_of_le (by omega) (by omega) (by omega)
    have m1 := m_lit (by omega : a < B) (by omega : b < B) hll hh
    have w1 := w_lit (r := r) (e := 0) ll lh hm (by
      have e := Nat.div_add_mod (a * b) B
      rw [hll, hh, Nat.mul_comm] at e
      rw [widN_def, if_neg (by omega), e, hr]) (by rw [if_neg (by omega)])
    generalize (blen m : Int) = bl at *
    clear hr lr hs hll hh ll lh bp
    have hR := Rep.init w
    go_enter Try.func94, Try.ntmps94
    go_wp2_with (first | (refine' xAe hR rfl rfl rfl ?_; clear hR; intro blk w hR) | (refine' xAb hR rfl rfl inferInstance ?_; clear hR; intro blk w hR) | (refine' xAc hR rfl rfl rfl inferInstance ?hm ?hn ?_; (case hm => first | with_reducible assumption | repeat (first | exact .head _ | apply mT)); (case hn => first | rfl | simp)) | (refine' xAd hR rfl rfl rfl inferInstance ?hm ?hv ?hn ?_; (case hm => first | with_reducible assumption | repeat (first | exact .head _ | apply mT)); (case hv => first | with_reducible assumption | (simp only [kC, kD, kE, kF]; try rfl)); (case hn => first | rfl | simp)) | (refine' xBg hR rfl rfl rfl inferInstance ?hm ?hv ?_; (case hm => first | with_reducible assumption | repeat (first | exact .head _ | apply mT)); (case hv => first | rfl | with_reducible assumption)) | (refine' xAa hR rfl rfl rfl inferInstance rfl ?hs ?zone ?zvn ?hn ?_; (case hs => repeat (first | exact xAf.head | apply xAf.tail)); (case zone => first | rfl | with_reducible assumption); (case zvn => first | rfl | simp); (case hn => first | rfl | simp); clear hR; intro w hR) | (refine' xBe hR rfl rfl rfl inferInstance rfl rfl ?hs ?hn ?hl ?_; (case hs => repeat (first | exact xAf.head | apply xAf.tail)); (case hn => first | exact oD rfl | (show _ < 4; with_reducible assumption) | (simp; try omega)); (case hl => first | with_reducible assumption | (simp only [nl, kA, kB]; first | done | rfl) | rfl); clear hR; intro w hR) | (go_at_call 34; refine (cb _).mono ?_; rintro e w ⟨rfl, hb⟩; replace hR := hR.call hb; clear hb) | (go_at_call 33; refine (m1 _).mono ?_; rintro e w ⟨rfl, hb⟩; replace hR := hR.call hb; clear hb) | (go_at_call 62; refine (w1 _).mono ?_; rintro e w ⟨rfl, hb⟩; replace hR := hR.call hb; clear hb))
    (refine' bodyPost_ret (xBt Try.results94 rfl (hR.loadAll (P := Try.prog) (ty := 24) ?hm ?hn)) rfl ⟨?_, hR.below⟩; (case hm => first | with_reducible assumption | repeat (first | exact .head _ | apply mT)); (case hn => first | rfl | simp))
    rfl
end Go.Proofs.Ythbcgcncoggagaa
