/- The contracts of the deeds of mods: sums, differences, products. -/
import Derived.Test.YtgfoeongjhkdmaaGreatRM
import Derived.Test.YtgfoeongjhkdmaaGreatRA
set_option linter.unusedVariables false
set_option linter.unusedSimpArgs false
namespace Go.Proofs.YtgfoeongjhkdmaaGreat
open Go.RowKit
attribute [local irreducible] Calls
theorem s_lit {a b d : Nat} {c : Int} (ha : a < B) (hb : b < B) (hd : (a + B - b) % B = d) (hc : bor (a : Int) (b : Int) = c) (w : World) : Calls Tryz.prog 62 #[num a, num b] w fun e w' =>
    e = .returned (.tuple #[num d, .int .u64 c]) ∧ Below w.heap.size w w' := by
  have := sub_any a b ha hb w
  rw [hc, ← num_mod (a + B - b), hd] at this
  exact this
set_option maxRecDepth 100000 in
set_option maxHeartbeats 1000000 in
theorem addm_any (a b m : Nat) (ha : a < m) (hb : b < m) (hm : m < B) (w : World) : Calls Tryz.prog 60 #[num a, num b, num m] w fun e w' =>
    e = .returned (num ((a + b) % m)) ∧ Below w.heap.size w w' := by
  have bp := B_pos
  obtain ⟨x, hx⟩ : ∃ x, (a + b) % B = x := ⟨_, rfl⟩
  obtain ⟨k, hk⟩ : ∃ k, (a + b) / B = k := ⟨_, rfl⟩
  have hdm := Nat.div_add_mod (a + b) B
  rw [hx, hk] at hdm
  have lx : x < B := by rw [← hx]; exact Nat.mod_lt _ bp
  have lk : k < 2 := by rw [← hk, Nat.div_lt_iff_lt_mul bp]; omega
  obtain ⟨y, hy⟩ : ∃ y, (x + B - m) % B = y := ⟨_, rfl⟩
  have s1 := a_lit (c := (k : Int)) (by omega : a < B) (by omega : b < B) hx (by rw [hk])
  have d1 := s_lit lx hm hy rfl
  have hbor := xDp (x : Int) (m : Int)
  by_cases hc : m ≤ a + b
  · have hr : (a + b) % m = a + b - m := by rw [Nat.mod_eq_sub_mod hc, Nat.mod_eq_of_lt (by omega)]
    have ey : y = (a + b) % m := by
      rw [hr, ← hy]
      have : k = 0 ∨ k = 1 := by omega
      rcases this with rfl | rfl
      · rw [show x + B - m = (a + b - m) + B by omega, Nat.add_mod_right, Nat.mod_eq_of_lt (by omega)]
      · rw [show x + B - m = a + b - m by omega, Nat.mod_eq_of_lt (by omega)]
    rw [← ey]
    have hcase : (k : Int) = 1 ∨ ((k : Int) = 0 ∧ bor (x : Int) (m : Int) = 0) := by
      have : k = 0 ∨ k = 1 := by omega
      rcases this with rfl | rfl
      · right
        refine ⟨rfl, ?_⟩
        rw [hbor, if_neg (by omega)]
      · exact .inl rfl
    generalize bor (x : Int) (m : Int) = l at *
    clear hbor hc hr ey hx hk hdm lx lk hy bp
    generalize (k : Int) = k at *
    have hR := Rep.init w
    rcases hcase with rfl | ⟨rfl, rfl⟩
    all_goals
      go_enter Tryz.func60, Tryz.ntmps60
      go_wp2_with (first | (refine' xAb hR rfl rfl rfl ?_; clear hR; intro blk w hR) | (refine' xAa hR rfl rfl inferInstance ?_; clear hR; intro blk w hR) | (refine' aAq hR rfl rfl rfl inferInstance ?_) | (refine' aBq hR rfl rfl rfl inferInstance ?_) | (refine' aCq hR rfl rfl rfl inferInstance ?_) | (refine' aDq hR rfl rfl rfl inferInstance rfl ?_; clear hR; intro w hR) | (refine' aEq hR rfl rfl rfl inferInstance rfl rfl ?_; clear hR; intro w hR) | (go_at_call 61; refine (s1 _).mono ?_; rintro e w ⟨rfl, hb⟩; replace hR := hR.call hb; clear hb) | (go_at_call 62; refine (d1 _).mono ?_; rintro e w ⟨rfl, hb⟩; replace hR := hR.call hb; clear hb))
      (refine' bodyPost_ret (xBq Tryz.results60 rfl (hR.loadAll (P := Tryz.prog) (ty := 24) ?hm ?hn)) rfl ⟨?_, hR.below⟩; (case hm => first | with_reducible assumption | repeat (first | exact .head _ | apply mT)); (case hn => first | rfl | simp))
      rfl
  · have hr : (a + b) % m = x := by
      rw [Nat.mod_eq_of_lt (by omega), ← hx, Nat.mod_eq_of_lt (by omega)]
    have k0 : (k : Int) = 0 := by
      rw [← hk, Nat.div_eq_of_lt (by omega)]; rfl
    have b1 : bor (x : Int) (m : Int) = 1 := by
      rw [hbor, if_pos]
      rw [← hx, Nat.mod_eq_of_lt (by omega)]; omega
    rw [hr]
    rw [k0] at s1
    rw [b1] at d1
    clear hbor hc hr hx hk hdm lx lk hy bp k0 b1
    have hR := Rep.init w
    go_enter Tryz.func60, Tryz.ntmps60
    go_wp2_with (first | (refine' xAb hR rfl rfl rfl ?_; clear hR; intro blk w hR) | (refine' xAa hR rfl rfl inferInstance ?_; clear hR; intro blk w hR) | (refine' aAq hR rfl rfl rfl inferInstance ?_) | (refine' aBq hR rfl rfl rfl inferInstance ?_) | (refine' aCq hR rfl rfl rfl inferInstance ?_) | (refine' aDq hR rfl rfl rfl inferInstance rfl ?_; clear hR; intro w hR) | (refine' aEq hR rfl rfl rfl inferInstance rfl rfl ?_; clear hR; intro w hR) | (go_at_call 61; refine (s1 _).mono ?_; rintro e w ⟨rfl, hb⟩; replace hR := hR.call hb; clear hb) | (go_at_call 62; refine (d1 _).mono ?_; rintro e w ⟨rfl, hb⟩; replace hR := hR.call hb; clear hb))
    (refine' bodyPost_ret (xBq Tryz.results60 rfl (hR.loadAll (P := Tryz.prog) (ty := 24) ?hm ?hn)) rfl ⟨?_, hR.below⟩; (case hm => first | with_reducible assumption | repeat (first | exact .head _ | apply mT)); (case hn => first | rfl | simp))
    rfl
noncomputable def subN : Nat → Nat → Nat → Nat := opq fun a b m => (a + (m - b)) % m
theorem subN_def (a b m : Nat) : subN a b m = (a + (m - b)) % m := by unfold subN; rw [xCe]
set_option maxRecDepth 100000 in
set_option maxHeartbeats 1000000 in
theorem subm_any (a b m : Nat) (ha : a < m) (hb : b < m) (hm : m < B) (w : World) : Calls Tryz.prog 77 #[num a, num b, num m] w fun e w' =>
    e = .returned (num (subN a b m)) ∧ Below w.heap.size w w' := by
  have bp := B_pos
  obtain ⟨x, hx⟩ : ∃ x, (a + B - b) % B = x := ⟨_, rfl⟩
  have lx : x < B := by rw [← hx]; exact Nat.mod_lt _ bp
  obtain ⟨r, hr⟩ : ∃ r, subN a b m = r := ⟨_, rfl⟩
  rw [hr]
  rw [subN_def] at hr
  by_cases hc : a < b
  · have d1 := s_lit (c := 1) (by omega : a < B) (by omega : b < B) hx (by rw [xDp, if_pos (by omega)])
    have e1 : x = a + B - b := by rw [← hx, Nat.mod_eq_of_lt (by omega)]
    have e2 : r = a + (m - b) := by rw [← hr, Nat.mod_eq_of_lt (by omega)]
    obtain ⟨c, hcc⟩ : ∃ c : Int, (((x + m) / B : Nat) : Int) = c := ⟨_, rfl⟩
    have s1 := a_lit (s := r) lx hm (by rw [e1, e2, show a + B - b + m = (a + (m - b)) + B by omega, Nat.add_mod_right, Nat.mod_eq_of_lt (by omega)]) hcc
    clear bp hx lx hr hc e1 e2 hcc
    have hR := Rep.init w
    go_enter Tryz.func77, Tryz.ntmps77
    go_wp2_with (first | (refine' xAb hR rfl rfl rfl ?_; clear hR; intro blk w hR) | (refine' xAa hR rfl rfl inferInstance ?_; clear hR; intro blk w hR) | (refine' aAq hR rfl rfl rfl inferInstance ?_) | (refine' aBq hR rfl rfl rfl inferInstance ?_) | (refine' aCq hR rfl rfl rfl inferInstance ?_) | (refine' aDq hR rfl rfl rfl inferInstance rfl ?_; clear hR; intro w hR) | (refine' aEq hR rfl rfl rfl inferInstance rfl rfl ?_; clear hR; intro w hR) | (go_at_call 61; refine (s1 _).mono ?_; rintro e w ⟨rfl, hb⟩; replace hR := hR.call hb; clear hb) | (go_at_call 62; refine (d1 _).mono ?_; rintro e w ⟨rfl, hb⟩; replace hR := hR.call hb; clear hb))
    (refine' bodyPost_ret (xBq Tryz.results77 rfl (hR.loadAll (P := Tryz.prog) (ty := 24) ?hm ?hn)) rfl ⟨?_, hR.below⟩; (case hm => first | with_reducible assumption | repeat (first | exact .head _ | apply mT)); (case hn => first | rfl | simp))
    rfl
  · have d1 := s_lit (c := 0) (by omega : a < B) (by omega : b < B) hx (by rw [xDp, if_neg (by omega)])
    have e2 : r = x := by
      rw [← hr, ← hx, show a + (m - b) = (a - b) + m by omega, Nat.add_mod_right, Nat.mod_eq_of_lt (by omega), show a + B - b = (a - b) + B by omega, Nat.add_mod_right, Nat.mod_eq_of_lt (by omega)]
    rw [e2]
    clear bp hx lx hr hc e2
    have hR := Rep.init w
    go_enter Tryz.func77, Tryz.ntmps77
    go_wp2_with (first | (refine' xAb hR rfl rfl rfl ?_; clear hR; intro blk w hR) | (refine' xAa hR rfl rfl inferInstance ?_; clear hR; intro blk w hR) | (refine' aAq hR rfl rfl rfl inferInstance ?_) | (refine' aBq hR rfl rfl rfl inferInstance ?_) | (refine' aCq hR rfl rfl rfl inferInstance ?_) | (refine' aDq hR rfl rfl rfl inferInstance rfl ?_; clear hR; intro w hR) | (refine' aEq hR rfl rfl rfl inferInstance rfl rfl ?_; clear hR; intro w hR) | (go_at_call 62; refine (d1 _).mono ?_; rintro e w ⟨rfl, hb⟩; replace hR := hR.call hb; clear hb))
    (refine' bodyPost_ret (xBq Tryz.results77 rfl (hR.loadAll (P := Tryz.prog) (ty := 24) ?hm ?hn)) rfl ⟨?_, hR.below⟩; (case hm => first | with_reducible assumption | repeat (first | exact .head _ | apply mT)); (case hn => first | rfl | simp))
    rfl
end Go.Proofs.YtgfoeongjhkdmaaGreat
namespace Go.Proofs.YtgfoeongjhkdmaaGreat
open Go.RowKit
attribute [local irreducible] Calls
set_option maxRecDepth 100000 in
set_option maxHeartbeats 1000000 in
theorem word_any (a b m : Nat) (ha : a < m) (hb : b < 18446744073709551616) (hm : m < 18446744073709551616) (w : World) : Calls Tryz.prog 49 #[.int .u64 (a : Int), .int .u64 (b : Int), .int .u64 (m : Int)] w fun e w' =>
    e = .returned (.int .u64 ((a * b % m : Nat) : Int)) ∧ Below w.heap.size w w' := by
  obtain ⟨h, hh⟩ : ∃ h, a * b / 18446744073709551616 = h := ⟨_, rfl⟩
  obtain ⟨l, hl⟩ : ∃ l, a * b % 18446744073709551616 = l := ⟨_, rfl⟩
  have e := Nat.div_add_mod (a * b) 18446744073709551616
  have lh : h < m := by
    rw [← hh, Nat.div_lt_iff_lt_mul (by decide)]
    exact Nat.mul_lt_mul_of_lt_of_le ha (by omega) (by omega)
  have ll : l < 18446744073709551616 := by rw [← hl]; exact Nat.mod_lt _ (by decide)
  have m1 := fun w => mul64_any a b (by omega) hb w
  rw [mhi_def, mlo_def, hh, hl] at m1
  have d1 := fun w => div64_any h l m lh hm ll w
  rw [show h * 18446744073709551616 + l = a * b by rw [← e, hh, hl, Nat.mul_comm]] at d1
  obtain ⟨q, hq⟩ : ∃ q, a * b / m = q := ⟨_, rfl⟩
  obtain ⟨r, hr⟩ : ∃ r, a * b % m = r := ⟨_, rfl⟩
  rw [hq, hr] at d1
  rw [hr]
  clear hh hl e lh ll hq hr
  have hR := Rep.init w
  go_enter Tryz.func49, Tryz.ntmps49
  go_wp2_with (first | (refine' xAb hR rfl rfl rfl ?_; clear hR; intro blk w hR) | (refine' xAa hR rfl rfl inferInstance ?_; clear hR; intro blk w hR) | (refine' aAq hR rfl rfl rfl inferInstance ?_) | (refine' aBq hR rfl rfl rfl inferInstance ?_) | (refine' aCq hR rfl rfl rfl inferInstance ?_) | (refine' aDq hR rfl rfl rfl inferInstance rfl ?_; clear hR; intro w hR) | (refine' aEq hR rfl rfl rfl inferInstance rfl rfl ?_; clear hR; intro w hR) | (go_at_call 81; refine (m1 _).mono ?_; rintro e w ⟨rfl, hb⟩; replace hR := hR.call hb; clear hb) | (go_at_call 82; refine (d1 _).mono ?_; rintro e w ⟨rfl, hb⟩; replace hR := hR.call hb; clear hb))
  go_ret
  exact ⟨rfl, hR.below⟩
noncomputable def mulN : Nat → Nat → Nat → Nat := opq fun a b m => a * b % m
theorem xCv (a b m : Nat) : mulN a b m = a * b % m := by unfold mulN; rw [xCe]
set_option maxRecDepth 100000 in
set_option maxHeartbeats 1000000 in
theorem timesm_any (a b m : Nat) (ha : a < m) (hb : b < m) (hm : m < B) (w : World) : Calls Tryz.prog 52 #[num a, num b, num m] w fun e w' =>
    e = .returned (num (mulN a b m)) ∧ Below w.heap.size w w' := by
  have bp := B_pos
  have cb := fun w => bits_any m hm w
  obtain ⟨r, hr⟩ : ∃ r, mulN a b m = r := ⟨_, rfl⟩
  rw [hr]
  rw [xCv] at hr
  have lr : r < m := by rw [← hr]; exact Nat.mod_lt _ (by omega)
  by_cases hs : m < 18446744073709551616
  · have hl : (blen m : Int) ≤ 64 := by
      have := (xCh m 64).mpr hs
      omega
    have ea : wd a 0 = (a : Int) := by rw [wd_eq]; unfold w64; omega
    have eb : wd b 0 = (b : Int) := by rw [wd_eq]; unfold w64; omega
    have em : wd m 0 = (m : Int) := by rw [wd_eq]; unfold w64; omega
    have w1 := fun w => word_any a b m ha (by omega) hs w
    rw [hr, ← ea, ← eb, ← em] at w1
    have o1 := fun w => of_any r (by omega) w
    generalize (blen m : Int) = bl at *
    clear hr lr hs ea eb em bp
    have hR := Rep.init w
    go_enter Tryz.func52, Tryz.ntmps52
    go_wp2_with (first | (refine' xAb hR rfl rfl rfl ?_; clear hR; intro blk w hR) | (refine' xAa hR rfl rfl inferInstance ?_; clear hR; intro blk w hR) | (refine' aAq hR rfl rfl rfl inferInstance ?_) | (refine' aBq hR rfl rfl rfl inferInstance ?_) | (refine' aCq hR rfl rfl rfl inferInstance ?_) | (refine' aDq hR rfl rfl rfl inferInstance rfl ?_; clear hR; intro w hR) | (refine' aEq hR rfl rfl rfl inferInstance rfl rfl ?_; clear hR; intro w hR) | (go_at_call 46; refine (cb _).mono ?_; rintro e w ⟨rfl, hb⟩; replace hR := hR.call hb; clear hb) | (go_at_call 49; refine (w1 _).mono ?_; rintro e w ⟨rfl, hb⟩; replace hR := hR.call hb; clear hb) | (go_at_call 39; refine (o1 _).mono ?_; rintro e w ⟨rfl, hb⟩; replace hR := hR.call hb; clear hb))
    (refine' bodyPost_ret (xBq Tryz.results52 rfl (hR.loadAll (P := Tryz.prog) (ty := 24) ?hm ?hn)) rfl ⟨?_, hR.below⟩; (case hm => first | with_reducible assumption | repeat (first | exact .head _ | apply mT)); (case hn => first | rfl | simp))
    rfl
  · have hl : ¬ (blen m : Int) ≤ 64 := fun h => hs ((xCh m 64).mp (by omega))
    obtain ⟨l, hll⟩ : ∃ l, a * b % B = l := ⟨_, rfl⟩
    obtain ⟨h, hh⟩ : ∃ h, a * b / B = h := ⟨_, rfl⟩
    have ll : l < B := by rw [← hll]; exact Nat.mod_lt _ bp
    have lh : h < B := by
      rw [← hh, Nat.div_lt_iff_lt_mul bp]
      exact Nat.mul_lt_mul_of_lt_of_le (by omega) (by omega) (by omega)
    have m1 := m_lit (by omega : a < B) (by omega : b < B) hll hh
    have w1 := w_lit (r := r) (e := 0) ll lh hm (by
      have e := Nat.div_add_mod (a * b) B
      rw [hll, hh, Nat.mul_comm] at e
      rw [widN_def, if_neg (by omega), e, hr]) (by rw [if_neg (by omega)])
    generalize (blen m : Int) = bl at *
    clear hr lr hs hll hh ll lh bp
    have hR := Rep.init w
    go_enter Tryz.func52, Tryz.ntmps52
    go_wp2_with (first | (refine' xAb hR rfl rfl rfl ?_; clear hR; intro blk w hR) | (refine' xAa hR rfl rfl inferInstance ?_; clear hR; intro blk w hR) | (refine' aAq hR rfl rfl rfl inferInstance ?_) | (refine' aBq hR rfl rfl rfl inferInstance ?_) | (refine' aCq hR rfl rfl rfl inferInstance ?_) | (refine' aDq hR rfl rfl rfl inferInstance rfl ?_; clear hR; intro w hR) | (refine' aEq hR rfl rfl rfl inferInstance rfl rfl ?_; clear hR; intro w hR) | (go_at_call 46; refine (cb _).mono ?_; rintro e w ⟨rfl, hb⟩; replace hR := hR.call hb; clear hb) | (go_at_call 83; refine (m1 _).mono ?_; rintro e w ⟨rfl, hb⟩; replace hR := hR.call hb; clear hb) | (go_at_call 57; refine (w1 _).mono ?_; rintro e w ⟨rfl, hb⟩; replace hR := hR.call hb; clear hb))
    (refine' bodyPost_ret (xBq Tryz.results52 rfl (hR.loadAll (P := Tryz.prog) (ty := 24) ?hm ?hn)) rfl ⟨?_, hR.below⟩; (case hm => first | with_reducible assumption | repeat (first | exact .head _ | apply mT)); (case hn => first | rfl | simp))
    rfl
end Go.Proofs.YtgfoeongjhkdmaaGreat
namespace Go.Proofs.YtgfoeongjhkdmaaGreat
open Go.RowKit
attribute [local irreducible] Calls
instance : CellT Tryz.prog 61 := .mk' (by kernel_rfl) (by kernel_rfl)
def okM (a b m : Nat) : Prop := 1 < m ∧ a < m ∧ b < m
instance (a b m : Nat) : Decidable (okM a b m) := by unfold okM; infer_instance
set_option maxRecDepth 100000 in
set_option maxHeartbeats 2000000 in
theorem deed_add (a b m : Nat) (ha : a < B) (hb : b < B) (hm : m < B) (w : World) : Calls Tryz.prog 53 #[.agg #[.func (.func 60) #[] #[]], num a, num b, num m] w fun e w' =>
    e = .returned (.tuple #[num (if okM a b m then (a + b) % m else 0), .int .i64 (if okM a b m then 0 else 1)]) ∧ Below w.heap.size w w' := by
  obtain ⟨n1, h1⟩ : ∃ n, n = 1 := ⟨_, rfl⟩
  have o1 : ∀ w, Calls Tryz.prog 39 #[.int .u64 1] w fun e w' => e = .returned (num n1) ∧ Below w.heap.size w w' := fun w => by
    rw [h1]; exact of_any 1 (by decide) w
  have L1 : n1 < B := lt_B (by omega)
  have c1 := cmp_lit hm L1 rfl
  have c2 := cmp_lit ha hm rfl
  have c3 := cmp_lit hb hm rfl
  have k1 := cmpN_le m n1
  have k2 := cmpN_ge a m
  have k3 := cmpN_ge b m
  by_cases ok : okM a b m
  · rw [if_pos ok, if_pos ok]
    have hd := fun w => addm_any a b m ok.2.1 ok.2.2 hm w
    generalize (a + b) % m = res at *
    have j1 : ¬ cmpN m n1 ≤ 0 := fun h => by have := k1.mp h; have := ok.1; omega
    have j2 : ¬ 0 ≤ cmpN a m := fun h => by have := k2.mp h; have := ok.2.1; omega
    have j3 : ¬ 0 ≤ cmpN b m := fun h => by have := k3.mp h; have := ok.2.2; omega
    generalize cmpN m n1 = x1 at *
    generalize cmpN a m = x2 at *
    generalize cmpN b m = x3 at *
    have q1 : decide (x1 ≤ 0) = false := decide_eq_false j1
    have q2 : decide (0 ≤ x2) = false := decide_eq_false j2
    have q3 : decide (0 ≤ x3) = false := decide_eq_false j3
    clear k1 k2 k3 ok L1 h1 j1 j2 j3
    have hR := Rep.init w
    go_enter Tryz.func53, Tryz.ntmps53
    go_wp2_with (first | (refine' xAb hR rfl rfl rfl ?_; clear hR; intro blk w hR) | (refine' xAa hR rfl rfl inferInstance ?_; clear hR; intro blk w hR) | (refine' aAq hR rfl rfl rfl inferInstance ?_) | (refine' aBq hR rfl rfl rfl inferInstance ?_) | (refine' aCq hR rfl rfl rfl inferInstance ?_) | (refine' aDq hR rfl rfl rfl inferInstance rfl ?_; clear hR; intro w hR) | (refine' aEq hR rfl rfl rfl inferInstance rfl rfl ?_; clear hR; intro w hR) | fail)
    refine xAg hR [0, 0, 0, 0, 0, 0, 0, 0, 0, 0, 0, 0, 0, 0, 0, 0] [] xCt (by kernel_rfl) rfl rfl (fun K hK => ?_)
    clear hR
    repeat ((first | (refine xBj ?_) | (refine' xAs (by decide) rfl (.inl rfl) rfl ?ha ?_) | (refine' xAs (by decide) rfl (.inr rfl) rfl ?ha ?_) | (refine' xAr rfl rfl rfl inferInstance ?hm ?hn ?ha ?_; (case hm => first | with_reducible assumption | repeat (first | exact .head _ | apply mT)); (case hn => first | rfl | simp)) | (refine' xAm rfl rfl rfl inferInstance ?hm ?hv ?hn ?ha ?_; (case hm => first | with_reducible assumption | repeat (first | exact .head _ | apply mT)); (case hv => first | with_reducible assumption | (simp only [kC, kD, kE, kF]; try rfl)); (case hn => first | rfl | simp)) | (refine' xAi rfl rfl rfl inferInstance ?hm ?hv ?ha ?_; (case hm => first | with_reducible assumption | repeat (first | exact .head _ | apply mT)); (case hv => first | rfl | with_reducible assumption)) | (refine' xAn rfl rfl rfl inferInstance ?hm ?hv ?hn ?ha ?_; (case hm => first | with_reducible assumption | repeat (first | exact .head _ | apply mT)); (case hv => first | with_reducible assumption | (simp only [kC, kD, kE, kF]; try rfl)); (case hn => first | rfl | simp)) | (refine' xAj rfl rfl rfl inferInstance ?hm ?hv ?ha ?_; (case hm => first | with_reducible assumption | repeat (first | exact .head _ | apply mT)); (case hv => first | rfl | with_reducible assumption)) | ((first | refine' xAd (by decide) rfl rfl rfl rfl (fun w => ?hq) ?ha ?_ | refine' xBf (by decide) rfl rfl rfl rfl (fun w => ?hq) ?ha ?_ | refine' xAp (by decide) rfl rfl rfl (fun w => ?hq) ?ha ?_ | refine' xAe (by decide) rfl rfl rfl (fun w => ?hq) ?ha ?_ | refine' xAo (by decide) rfl rfl rfl (fun w => ?hq) ?ha ?_ | refine' xBd (by decide) rfl rfl rfl rfl (fun w => ?hq) ?ha ?_ | refine' xBc (by decide) rfl rfl rfl rfl rfl rfl (fun w => ?hq) ?ha ?_ | refine' xBb (by decide) rfl rfl (fun w => ?hq) ?ha ?_ | refine' xAq (by decide) rfl rfl rfl (fun w => ?hq) ?ha ?_ | refine' xBe (by decide) rfl rfl rfl (fun w => ?hq) ?ha ?_); (case hq => go_simp; try rfl)) | (refine' xAh (by decide) rfl rfl rfl ?ha ?_) | (refine' xBl (by decide) rfl rfl rfl rfl ?ha ?_) | (refine' xBk (by decide) rfl ?ha ?_) | (refine' xBg rfl rfl rfl (xBi Tryz.func39 (by kernel_rfl) (by kernel_rfl) _) (fun w => o1 w) ?ha ?_) | (refine' xBg rfl rfl rfl (xBi Tryz.func41 (by kernel_rfl) (by kernel_rfl) _) (fun w => c1 w) ?ha ?_) | (refine' xBg rfl rfl rfl (xBi Tryz.func41 (by kernel_rfl) (by kernel_rfl) _) (fun w => c2 w) ?ha ?_) | (refine' xBg rfl rfl rfl (xBi Tryz.func41 (by kernel_rfl) (by kernel_rfl) _) (fun w => c3 w) ?ha ?_)); try (case ha => simp only [kP, kQ, kA, kB]; try rfl))
    refine xBs (hK _ _ ?_)
    clear hK K
    refine xBx (fun Q hQ => ?_)
    try simp only [List.nil_append, List.cons_append]
    repeat ((first | refine' xBa rfl (.inl rfl) rfl ?hk ?ha ?_ | refine' xBa rfl (.inr rfl) rfl ?hk ?ha ?_ | (refine' xAv rfl rfl rfl inferInstance rfl ?hs rfl rfl ?hn ?hk ?ha ?_; (case hs => repeat (first | exact xAx.head | apply xAx.tail)); (case hn => first | rfl | simp)) | (refine' xAl rfl rfl rfl inferInstance rfl rfl ?hs ?hn ?hl ?hk ?ha ?_; (case hs => repeat (first | exact xAx.head | apply xAx.tail)); (case hn => first | exact oD rfl | (show _ < 4; with_reducible assumption) | (simp; try omega)); (case hl => first | with_reducible assumption | (simp only [nl, kA, kB]; first | done | rfl) | rfl)) | (refine' xAw rfl rfl rfl inferInstance rfl rfl ?hvn ?hs ?hn ?hl ?hk ?ha ?_; (case hvn => first | rfl | simp); (case hs => repeat (first | exact xAx.head | apply xAx.tail)); (case hn => first | exact oD rfl | (show _ < 4; with_reducible assumption) | (simp; try omega)); (case hl => first | with_reducible assumption | (simp only [nl, kA, kB]; first | done | rfl) | rfl)) | (refine' xBm rfl (fun w => ?hq) ?hk ?ha ?_; (case hq => go_simp; try rfl))); (case hk => intro p hp; first | exact absurd hp List.not_mem_nil | (obtain rfl := List.mem_singleton.1 hp; repeat (first | exact List.Mem.head _ | apply mT))); (case ha => simp only [kP, kQ, kA, kB]; try rfl))
    refine xBw (fun w hR => hQ _ _ ?_)
    clear hQ Q
    go_wp2_with (first | (refine' xAb hR rfl rfl rfl ?_; clear hR; intro blk w hR) | (refine' xAa hR rfl rfl inferInstance ?_; clear hR; intro blk w hR) | (refine' aAq hR rfl rfl rfl inferInstance ?_) | (refine' aBq hR rfl rfl rfl inferInstance ?_) | (refine' aCq hR rfl rfl rfl inferInstance ?_) | (refine' aDq hR rfl rfl rfl inferInstance rfl ?_; clear hR; intro w hR) | (refine' aEq hR rfl rfl rfl inferInstance rfl rfl ?_; clear hR; intro w hR) | (go_at_call 60; refine (hd _).mono ?_; rintro e w ⟨rfl, hb⟩; replace hR := hR.call hb; clear hb))
    (refine' bodyPost_ret (xAz Tryz.results53 rfl (hR.loadAll (P := Tryz.prog) (ty := 24) ?hm ?hn)) rfl ⟨?_, hR.below⟩; (case hm => first | with_reducible assumption | repeat (first | exact .head _ | apply mT)); (case hn => first | rfl | simp))
    rfl
  · rw [if_neg ok, if_neg ok]
    have hc : decide (cmpN m n1 ≤ 0) = true ∨ (decide (cmpN m n1 ≤ 0) = false ∧ decide (0 ≤ cmpN a m) = true) ∨ (decide (cmpN m n1 ≤ 0) = false ∧ decide (0 ≤ cmpN a m) = false ∧ decide (0 ≤ cmpN b m) = true) := by
      simp only [decide_eq_true_iff, decide_eq_false_iff_not]
      rw [k1, k2, k3]
      unfold okM at ok
      omega
    generalize cmpN m n1 = x1 at *
    generalize cmpN a m = x2 at *
    generalize cmpN b m = x3 at *
    clear k1 k2 k3 ok L1 h1
    have hR := Rep.init w
    rcases hc with j1 | ⟨j1, j2⟩ | ⟨j1, j2, j3⟩
    all_goals
      go_enter Tryz.func53, Tryz.ntmps53
      go_wp2_with (first | (refine' xAb hR rfl rfl rfl ?_; clear hR; intro blk w hR) | (refine' xAa hR rfl rfl inferInstance ?_; clear hR; intro blk w hR) | (refine' aAq hR rfl rfl rfl inferInstance ?_) | (refine' aBq hR rfl rfl rfl inferInstance ?_) | (refine' aCq hR rfl rfl rfl inferInstance ?_) | (refine' aDq hR rfl rfl rfl inferInstance rfl ?_; clear hR; intro w hR) | (refine' aEq hR rfl rfl rfl inferInstance rfl rfl ?_; clear hR; intro w hR) | fail)
      refine xAg hR [0, 0, 0, 0, 0, 0, 0, 0, 0, 0, 0, 0, 0, 0, 0, 0] [] xCt (by kernel_rfl) rfl rfl (fun K hK => ?_)
      clear hR
      repeat ((first | (refine xBj ?_) | (refine' xAs (by decide) rfl (.inl rfl) rfl ?ha ?_) | (refine' xAs (by decide) rfl (.inr rfl) rfl ?ha ?_) | (refine' xAr rfl rfl rfl inferInstance ?hm ?hn ?ha ?_; (case hm => first | with_reducible assumption | repeat (first | exact .head _ | apply mT)); (case hn => first | rfl | simp)) | (refine' xAm rfl rfl rfl inferInstance ?hm ?hv ?hn ?ha ?_; (case hm => first | with_reducible assumption | repeat (first | exact .head _ | apply mT)); (case hv => first | with_reducible assumption | (simp only [kC, kD, kE, kF]; try rfl)); (case hn => first | rfl | simp)) | (refine' xAi rfl rfl rfl inferInstance ?hm ?hv ?ha ?_; (case hm => first | with_reducible assumption | repeat (first | exact .head _ | apply mT)); (case hv => first | rfl | with_reducible assumption)) | (refine' xAn rfl rfl rfl inferInstance ?hm ?hv ?hn ?ha ?_; (case hm => first | with_reducible assumption | repeat (first | exact .head _ | apply mT)); (case hv => first | with_reducible assumption | (simp only [kC, kD, kE, kF]; try rfl)); (case hn => first | rfl | simp)) | (refine' xAj rfl rfl rfl inferInstance ?hm ?hv ?ha ?_; (case hm => first | with_reducible assumption | repeat (first | exact .head _ | apply mT)); (case hv => first | rfl | with_reducible assumption)) | ((first | refine' xAd (by decide) rfl rfl rfl rfl (fun w => ?hq) ?ha ?_ | refine' xBf (by decide) rfl rfl rfl rfl (fun w => ?hq) ?ha ?_ | refine' xAp (by decide) rfl rfl rfl (fun w => ?hq) ?ha ?_ | refine' xAe (by decide) rfl rfl rfl (fun w => ?hq) ?ha ?_ | refine' xAo (by decide) rfl rfl rfl (fun w => ?hq) ?ha ?_ | refine' xBd (by decide) rfl rfl rfl rfl (fun w => ?hq) ?ha ?_ | refine' xBc (by decide) rfl rfl rfl rfl rfl rfl (fun w => ?hq) ?ha ?_ | refine' xBb (by decide) rfl rfl (fun w => ?hq) ?ha ?_ | refine' xAq (by decide) rfl rfl rfl (fun w => ?hq) ?ha ?_ | refine' xBe (by decide) rfl rfl rfl (fun w => ?hq) ?ha ?_); (case hq => go_simp; try rfl)) | (refine' xAh (by decide) rfl rfl rfl ?ha ?_) | (refine' xBl (by decide) rfl rfl rfl rfl ?ha ?_) | (refine' xBk (by decide) rfl ?ha ?_) | (refine' xBg rfl rfl rfl (xBi Tryz.func39 (by kernel_rfl) (by kernel_rfl) _) (fun w => o1 w) ?ha ?_) | (refine' xBg rfl rfl rfl (xBi Tryz.func41 (by kernel_rfl) (by kernel_rfl) _) (fun w => c1 w) ?ha ?_) | (refine' xBg rfl rfl rfl (xBi Tryz.func41 (by kernel_rfl) (by kernel_rfl) _) (fun w => c2 w) ?ha ?_) | (refine' xBg rfl rfl rfl (xBi Tryz.func41 (by kernel_rfl) (by kernel_rfl) _) (fun w => c3 w) ?ha ?_)); try (case ha => simp only [kP, kQ, kA, kB]; try rfl))
      refine xBs (hK _ _ ?_)
      clear hK K
      refine xBx (fun Q hQ => ?_)
      try simp only [List.nil_append, List.cons_append]
      repeat ((first | refine' xBa rfl (.inl rfl) rfl ?hk ?ha ?_ | refine' xBa rfl (.inr rfl) rfl ?hk ?ha ?_ | (refine' xAv rfl rfl rfl inferInstance rfl ?hs rfl rfl ?hn ?hk ?ha ?_; (case hs => repeat (first | exact xAx.head | apply xAx.tail)); (case hn => first | rfl | simp)) | (refine' xAl rfl rfl rfl inferInstance rfl rfl ?hs ?hn ?hl ?hk ?ha ?_; (case hs => repeat (first | exact xAx.head | apply xAx.tail)); (case hn => first | exact oD rfl | (show _ < 4; with_reducible assumption) | (simp; try omega)); (case hl => first | with_reducible assumption | (simp only [nl, kA, kB]; first | done | rfl) | rfl)) | (refine' xAw rfl rfl rfl inferInstance rfl rfl ?hvn ?hs ?hn ?hl ?hk ?ha ?_; (case hvn => first | rfl | simp); (case hs => repeat (first | exact xAx.head | apply xAx.tail)); (case hn => first | exact oD rfl | (show _ < 4; with_reducible assumption) | (simp; try omega)); (case hl => first | with_reducible assumption | (simp only [nl, kA, kB]; first | done | rfl) | rfl)) | (refine' xBm rfl (fun w => ?hq) ?hk ?ha ?_; (case hq => go_simp; try rfl))); (case hk => intro p hp; first | exact absurd hp List.not_mem_nil | (obtain rfl := List.mem_singleton.1 hp; repeat (first | exact List.Mem.head _ | apply mT))); (case ha => simp only [kP, kQ, kA, kB]; try rfl))
      refine xBw (fun w hR => hQ _ _ ?_)
      clear hQ Q
      go_wp2_with (first | (refine' xAb hR rfl rfl rfl ?_; clear hR; intro blk w hR) | (refine' xAa hR rfl rfl inferInstance ?_; clear hR; intro blk w hR) | (refine' aAq hR rfl rfl rfl inferInstance ?_) | (refine' aBq hR rfl rfl rfl inferInstance ?_) | (refine' aCq hR rfl rfl rfl inferInstance ?_) | (refine' aDq hR rfl rfl rfl inferInstance rfl ?_; clear hR; intro w hR) | (refine' aEq hR rfl rfl rfl inferInstance rfl rfl ?_; clear hR; intro w hR) | fail)
      (refine' bodyPost_ret (xAz Tryz.results53 rfl (hR.loadAll (P := Tryz.prog) (ty := 24) ?hm ?hn)) rfl ⟨?_, hR.below⟩; (case hm => first | with_reducible assumption | repeat (first | exact .head _ | apply mT)); (case hn => first | rfl | simp))
      rw [xCs]
      rfl
set_option maxRecDepth 100000 in
set_option maxHeartbeats 1000000 in
theorem mods_add (a b m : Nat) (ha : a < B) (hb : b < B) (hm : m < B) (w : World) : Calls Tryz.prog 31 #[num a, num b, num m] w fun e w' =>
    e = .returned (.tuple #[num (if okM a b m then (a + b) % m else 0), .int .i64 (if okM a b m then 0 else 1)]) ∧ Below w.heap.size w w' := by
  have hd := fun w => deed_add a b m ha hb hm w
  generalize (if okM a b m then (a + b) % m else 0) = res at *
  generalize (if okM a b m then (0 : Int) else 1) = er at *
  have hR := Rep.init w
  go_enter Tryz.func31, Tryz.ntmps31
  go_wp2_with (first | (refine' xAb hR rfl rfl rfl ?_; clear hR; intro blk w hR) | (refine' xAa hR rfl rfl inferInstance ?_; clear hR; intro blk w hR) | (refine' aAq hR rfl rfl rfl inferInstance ?_) | (refine' aBq hR rfl rfl rfl inferInstance ?_) | (refine' aCq hR rfl rfl rfl inferInstance ?_) | (refine' aDq hR rfl rfl rfl inferInstance rfl ?_; clear hR; intro w hR) | (refine' aEq hR rfl rfl rfl inferInstance rfl rfl ?_; clear hR; intro w hR) | (go_at_call 53; refine (hd _).mono ?_; rintro e w ⟨rfl, hb⟩; replace hR := hR.call hb; clear hb))
  (refine' bodyPost_ret (xAz Tryz.results31 rfl (hR.loadAll (P := Tryz.prog) (ty := 24) ?hm ?hn)) rfl ⟨?_, hR.below⟩; (case hm => first | with_reducible assumption | repeat (first | exact .head _ | apply mT)); (case hn => first | rfl | simp))
  rfl
set_option maxRecDepth 100000 in
set_option maxHeartbeats 2000000 in
theorem deed_sub (a b m : Nat) (ha : a < B) (hb : b < B) (hm : m < B) (w : World) : Calls Tryz.prog 53 #[.agg #[.func (.func 77) #[] #[]], num a, num b, num m] w fun e w' =>
    e = .returned (.tuple #[num (if okM a b m then subN a b m else 0), .int .i64 (if okM a b m then 0 else 1)]) ∧ Below w.heap.size w w' := by
  obtain ⟨n1, h1⟩ : ∃ n, n = 1 := ⟨_, rfl⟩
  have o1 : ∀ w, Calls Tryz.prog 39 #[.int .u64 1] w fun e w' => e = .returned (num n1) ∧ Below w.heap.size w w' := fun w => by
    rw [h1]; exact of_any 1 (by decide) w
  have L1 : n1 < B := lt_B (by omega)
  have c1 := cmp_lit hm L1 rfl
  have c2 := cmp_lit ha hm rfl
  have c3 := cmp_lit hb hm rfl
  have k1 := cmpN_le m n1
  have k2 := cmpN_ge a m
  have k3 := cmpN_ge b m
  by_cases ok : okM a b m
  · rw [if_pos ok, if_pos ok]
    have hd := fun w => subm_any a b m ok.2.1 ok.2.2 hm w
    generalize subN a b m = res at *
    have j1 : ¬ cmpN m n1 ≤ 0 := fun h => by have := k1.mp h; have := ok.1; omega
    have j2 : ¬ 0 ≤ cmpN a m := fun h => by have := k2.mp h; have := ok.2.1; omega
    have j3 : ¬ 0 ≤ cmpN b m := fun h => by have := k3.mp h; have := ok.2.2; omega
    generalize cmpN m n1 = x1 at *
    generalize cmpN a m = x2 at *
    generalize cmpN b m = x3 at *
    have q1 : decide (x1 ≤ 0) = false := decide_eq_false j1
    have q2 : decide (0 ≤ x2) = false := decide_eq_false j2
    have q3 : decide (0 ≤ x3) = false := decide_eq_false j3
    clear k1 k2 k3 ok L1 h1 j1 j2 j3
    have hR := Rep.init w
    go_enter Tryz.func53, Tryz.ntmps53
    go_wp2_with (first | (refine' xAb hR rfl rfl rfl ?_; clear hR; intro blk w hR) | (refine' xAa hR rfl rfl inferInstance ?_; clear hR; intro blk w hR) | (refine' aAq hR rfl rfl rfl inferInstance ?_) | (refine' aBq hR rfl rfl rfl inferInstance ?_) | (refine' aCq hR rfl rfl rfl inferInstance ?_) | (refine' aDq hR rfl rfl rfl inferInstance rfl ?_; clear hR; intro w hR) | (refine' aEq hR rfl rfl rfl inferInstance rfl rfl ?_; clear hR; intro w hR) | fail)
    refine xAg hR [0, 0, 0, 0, 0, 0, 0, 0, 0, 0, 0, 0, 0, 0, 0, 0] [] xCt (by kernel_rfl) rfl rfl (fun K hK => ?_)
    clear hR
    repeat ((first | (refine xBj ?_) | (refine' xAs (by decide) rfl (.inl rfl) rfl ?ha ?_) | (refine' xAs (by decide) rfl (.inr rfl) rfl ?ha ?_) | (refine' xAr rfl rfl rfl inferInstance ?hm ?hn ?ha ?_; (case hm => first | with_reducible assumption | repeat (first | exact .head _ | apply mT)); (case hn => first | rfl | simp)) | (refine' xAm rfl rfl rfl inferInstance ?hm ?hv ?hn ?ha ?_; (case hm => first | with_reducible assumption | repeat (first | exact .head _ | apply mT)); (case hv => first | with_reducible assumption | (simp only [kC, kD, kE, kF]; try rfl)); (case hn => first | rfl | simp)) | (refine' xAi rfl rfl rfl inferInstance ?hm ?hv ?ha ?_; (case hm => first | with_reducible assumption | repeat (first | exact .head _ | apply mT)); (case hv => first | rfl | with_reducible assumption)) | (refine' xAn rfl rfl rfl inferInstance ?hm ?hv ?hn ?ha ?_; (case hm => first | with_reducible assumption | repeat (first | exact .head _ | apply mT)); (case hv => first | with_reducible assumption | (simp only [kC, kD, kE, kF]; try rfl)); (case hn => first | rfl | simp)) | (refine' xAj rfl rfl rfl inferInstance ?hm ?hv ?ha ?_; (case hm => first | with_reducible assumption | repeat (first | exact .head _ | apply mT)); (case hv => first | rfl | with_reducible assumption)) | ((first | refine' xAd (by decide) rfl rfl rfl rfl (fun w => ?hq) ?ha ?_ | refine' xBf (by decide) rfl rfl rfl rfl (fun w => ?hq) ?ha ?_ | refine' xAp (by decide) rfl rfl rfl (fun w => ?hq) ?ha ?_ | refine' xAe (by decide) rfl rfl rfl (fun w => ?hq) ?ha ?_ | refine' xAo (by decide) rfl rfl rfl (fun w => ?hq) ?ha ?_ | refine' xBd (by decide) rfl rfl rfl rfl (fun w => ?hq) ?ha ?_ | refine' xBc (by decide) rfl rfl rfl rfl rfl rfl (fun w => ?hq) ?ha ?_ | refine' xBb (by decide) rfl rfl (fun w => ?hq) ?ha ?_ | refine' xAq (by decide) rfl rfl rfl (fun w => ?hq) ?ha ?_ | refine' xBe (by decide) rfl rfl rfl (fun w => ?hq) ?ha ?_); (case hq => go_simp; try rfl)) | (refine' xAh (by decide) rfl rfl rfl ?ha ?_) | (refine' xBl (by decide) rfl rfl rfl rfl ?ha ?_) | (refine' xBk (by decide) rfl ?ha ?_) | (refine' xBg rfl rfl rfl (xBi Tryz.func39 (by kernel_rfl) (by kernel_rfl) _) (fun w => o1 w) ?ha ?_) | (refine' xBg rfl rfl rfl (xBi Tryz.func41 (by kernel_rfl) (by kernel_rfl) _) (fun w => c1 w) ?ha ?_) | (refine' xBg rfl rfl rfl (xBi Tryz.func41 (by kernel_rfl) (by kernel_rfl) _) (fun w => c2 w) ?ha ?_) | (refine' xBg rfl rfl rfl (xBi Tryz.func41 (by kernel_rfl) (by kernel_rfl) _) (fun w => c3 w) ?ha ?_)); try (case ha => simp only [kP, kQ, kA, kB]; try rfl))
    refine xBs (hK _ _ ?_)
    clear hK K
    refine xBx (fun Q hQ => ?_)
    try simp only [List.nil_append, List.cons_append]
    repeat ((first | refine' xBa rfl (.inl rfl) rfl ?hk ?ha ?_ | refine' xBa rfl (.inr rfl) rfl ?hk ?ha ?_ | (refine' xAv rfl rfl rfl inferInstance rfl ?hs rfl rfl ?hn ?hk ?ha ?_; (case hs => repeat (first | exact xAx.head | apply xAx.tail)); (case hn => first | rfl | simp)) | (refine' xAl rfl rfl rfl inferInstance rfl rfl ?hs ?hn ?hl ?hk ?ha ?_; (case hs => repeat (first | exact xAx.head | apply xAx.tail)); (case hn => first | exact oD rfl | (show _ < 4; with_reducible assumption) | (simp; try omega)); (case hl => first | with_reducible assumption | (simp only [nl, kA, kB]; first | done | rfl) | rfl)) | (refine' xAw rfl rfl rfl inferInstance rfl rfl ?hvn ?hs ?hn ?hl ?hk ?ha ?_; (case hvn => first | rfl | simp); (case hs => repeat (first | exact xAx.head | apply xAx.tail)); (case hn => first | exact oD rfl | (show _ < 4; with_reducible assumption) | (simp; try omega)); (case hl => first | with_reducible assumption | (simp only [nl, kA, kB]; first | done | rfl) | rfl)) | (refine' xBm rfl (fun w => ?hq) ?hk ?ha ?_; (case hq => go_simp; try rfl))); (case hk => intro p hp; first | exact absurd hp List.not_mem_nil | (obtain rfl := List.mem_singleton.1 hp; repeat (first | exact List.Mem.head _ | apply mT))); (case ha => simp only [kP, kQ, kA, kB]; try rfl))
    refine xBw (fun w hR => hQ _ _ ?_)
    clear hQ Q
    go_wp2_with (first | (refine' xAb hR rfl rfl rfl ?_; clear hR; intro blk w hR) | (refine' xAa hR rfl rfl inferInstance ?_; clear hR; intro blk w hR) | (refine' aAq hR rfl rfl rfl inferInstance ?_) | (refine' aBq hR rfl rfl rfl inferInstance ?_) | (refine' aCq hR rfl rfl rfl inferInstance ?_) | (refine' aDq hR rfl rfl rfl inferInstance rfl ?_; clear hR; intro w hR) | (refine' aEq hR rfl rfl rfl inferInstance rfl rfl ?_; clear hR; intro w hR) | (go_at_call 77; refine (hd _).mono ?_; rintro e w ⟨rfl, hb⟩; replace hR := hR.call hb; clear hb))
    (refine' bodyPost_ret (xAz Tryz.results53 rfl (hR.loadAll (P := Tryz.prog) (ty := 24) ?hm ?hn)) rfl ⟨?_, hR.below⟩; (case hm => first | with_reducible assumption | repeat (first | exact .head _ | apply mT)); (case hn => first | rfl | simp))
    rfl
  · rw [if_neg ok, if_neg ok]
    have hc : decide (cmpN m n1 ≤ 0) = true ∨ (decide (cmpN m n1 ≤ 0) = false ∧ decide (0 ≤ cmpN a m) = true) ∨ (decide (cmpN m n1 ≤ 0) = false ∧ decide (0 ≤ cmpN a m) = false ∧ decide (0 ≤ cmpN b m) = true) := by
      simp only [decide_eq_true_iff, decide_eq_false_iff_not]
      rw [k1, k2, k3]
      unfold okM at ok
      omega
    generalize cmpN m n1 = x1 at *
    generalize cmpN a m = x2 at *
    generalize cmpN b m = x3 at *
    clear k1 k2 k3 ok L1 h1
    have hR := Rep.init w
    rcases hc with j1 | ⟨j1, j2⟩ | ⟨j1, j2, j3⟩
    all_goals
      go_enter Tryz.func53, Tryz.ntmps53
      go_wp2_with (first | (refine' xAb hR rfl rfl rfl ?_; clear hR; intro blk w hR) | (refine' xAa hR rfl rfl inferInstance ?_; clear hR; intro blk w hR) | (refine' aAq hR rfl rfl rfl inferInstance ?_) | (refine' aBq hR rfl rfl rfl inferInstance ?_) | (refine' aCq hR rfl rfl rfl inferInstance ?_) | (refine' aDq hR rfl rfl rfl inferInstance rfl ?_; clear hR; intro w hR) | (refine' aEq hR rfl rfl rfl inferInstance rfl rfl ?_; clear hR; intro w hR) | fail)
      refine xAg hR [0, 0, 0, 0, 0, 0, 0, 0, 0, 0, 0, 0, 0, 0, 0, 0] [] xCt (by kernel_rfl) rfl rfl (fun K hK => ?_)
      clear hR
      repeat ((first | (refine xBj ?_) | (refine' xAs (by decide) rfl (.inl rfl) rfl ?ha ?_) | (refine' xAs (by decide) rfl (.inr rfl) rfl ?ha ?_) | (refine' xAr rfl rfl rfl inferInstance ?hm ?hn ?ha ?_; (case hm => first | with_reducible assumption | repeat (first | exact .head _ | apply mT)); (case hn => first | rfl | simp)) | (refine' xAm rfl rfl rfl inferInstance ?hm ?hv ?hn ?ha ?_; (case hm => first | with_reducible assumption | repeat (first | exact .head _ | apply mT)); (case hv => first | with_reducible assumption | (simp only [kC, kD, kE, kF]; try rfl)); (case hn => first | rfl | simp)) | (refine' xAi rfl rfl rfl inferInstance ?hm ?hv ?ha ?_; (case hm => first | with_reducible assumption | repeat (first | exact .head _ | apply mT)); (case hv => first | rfl | with_reducible assumption)) | (refine' xAn rfl rfl rfl inferInstance ?hm ?hv ?hn ?ha ?_; (case hm => first | with_reducible assumption | repeat (first | exact .head _ | apply mT)); (case hv => first | with_reducible assumption | (simp only [kC, kD, kE, kF]; try rfl)); (case hn => first | rfl | simp)) | (refine' xAj rfl rfl rfl inferInstance ?hm ?hv ?ha ?_; (case hm => first | with_reducible assumption | repeat (first | exact .head _ | apply mT)); (case hv => first | rfl | with_reducible assumption)) | ((first | refine' xAd (by decide) rfl rfl rfl rfl (fun w => ?hq) ?ha ?_ | refine' xBf (by decide) rfl rfl rfl rfl (fun w => ?hq) ?ha ?_ | refine' xAp (by decide) rfl rfl rfl (fun w => ?hq) ?ha ?_ | refine' xAe (by decide) rfl rfl rfl (fun w => ?hq) ?ha ?_ | refine' xAo (by decide) rfl rfl rfl (fun w => ?hq) ?ha ?_ | refine' xBd (by decide) rfl rfl rfl rfl (fun w => ?hq) ?ha ?_ | refine' xBc (by decide) rfl rfl rfl rfl rfl rfl (fun w => ?hq) ?ha ?_ | refine' xBb (by decide) rfl rfl (fun w => ?hq) ?ha ?_ | refine' xAq (by decide) rfl rfl rfl (fun w => ?hq) ?ha ?_ | refine' xBe (by decide) rfl rfl rfl (fun w => ?hq) ?ha ?_); (case hq => go_simp; try rfl)) | (refine' xAh (by decide) rfl rfl rfl ?ha ?_) | (refine' xBl (by decide) rfl rfl rfl rfl ?ha ?_) | (refine' xBk (by decide) rfl ?ha ?_) | (refine' xBg rfl rfl rfl (xBi Tryz.func39 (by kernel_rfl) (by kernel_rfl) _) (fun w => o1 w) ?ha ?_) | (refine' xBg rfl rfl rfl (xBi Tryz.func41 (by kernel_rfl) (by kernel_rfl) _) (fun w => c1 w) ?ha ?_) | (refine' xBg rfl rfl rfl (xBi Tryz.func41 (by kernel_rfl) (by kernel_rfl) _) (fun w => c2 w) ?ha ?_) | (refine' xBg rfl rfl rfl (xBi Tryz.func41 (by kernel_rfl) (by kernel_rfl) _) (fun w => c3 w) ?ha ?_)); try (case ha => simp only [kP, kQ, kA, kB]; try rfl))
      refine xBs (hK _ _ ?_)
      clear hK K
      refine xBx (fun Q hQ => ?_)
      try simp only [List.nil_append, List.cons_append]
      repeat ((first | refine' xBa rfl (.inl rfl) rfl ?hk ?ha ?_ | refine' xBa rfl (.inr rfl) rfl ?hk ?ha ?_ | (refine' xAv rfl rfl rfl inferInstance rfl ?hs rfl rfl ?hn ?hk ?ha ?_; (case hs => repeat (first | exact xAx.head | apply xAx.tail)); (case hn => first | rfl | simp)) | (refine' xAl rfl rfl rfl inferInstance rfl rfl ?hs ?hn ?hl ?hk ?ha ?_; (case hs => repeat (first | exact xAx.head | apply xAx.tail)); (case hn => first | exact oD rfl | (show _ < 4; with_reducible assumption) | (simp; try omega)); (case hl => first | with_reducible assumption | (simp only [nl, kA, kB]; first | done | rfl) | rfl)) | (refine' xAw rfl rfl rfl inferInstance rfl rfl ?hvn ?hs ?hn ?hl ?hk ?ha ?_; (case hvn => first | rfl | simp); (case hs => repeat (first | exact xAx.head | apply xAx.tail)); (case hn => first | exact oD rfl | (show _ < 4; with_reducible assumption) | (simp; try omega)); (case hl => first | with_reducible assumption | (simp only [nl, kA, kB]; first | done | rfl) | rfl)) | (refine' xBm rfl (fun w => ?hq) ?hk ?ha ?_; (case hq => go_simp; try rfl))); (case hk => intro p hp; first | exact absurd hp List.not_mem_nil | (obtain rfl := List.mem_singleton.1 hp; repeat (first | exact List.Mem.head _ | apply mT))); (case ha => simp only [kP, kQ, kA, kB]; try rfl))
      refine xBw (fun w hR => hQ _ _ ?_)
      clear hQ Q
      go_wp2_with (first | (refine' xAb hR rfl rfl rfl ?_; clear hR; intro blk w hR) | (refine' xAa hR rfl rfl inferInstance ?_; clear hR; intro blk w hR) | (refine' aAq hR rfl rfl rfl inferInstance ?_) | (refine' aBq hR rfl rfl rfl inferInstance ?_) | (refine' aCq hR rfl rfl rfl inferInstance ?_) | (refine' aDq hR rfl rfl rfl inferInstance rfl ?_; clear hR; intro w hR) | (refine' aEq hR rfl rfl rfl inferInstance rfl rfl ?_; clear hR; intro w hR) | fail)
      (refine' bodyPost_ret (xAz Tryz.results53 rfl (hR.loadAll (P := Tryz.prog) (ty := 24) ?hm ?hn)) rfl ⟨?_, hR.below⟩; (case hm => first | with_reducible assumption | repeat (first | exact .head _ | apply mT)); (case hn => first | rfl | simp))
      rw [xCs]
      rfl
set_option maxRecDepth 100000 in
set_option maxHeartbeats 1000000 in
theorem mods_sub (a b m : Nat) (ha : a < B) (hb : b < B) (hm : m < B) (w : World) : Calls Tryz.prog 40 #[num a, num b, num m] w fun e w' =>
    e = .returned (.tuple #[num (if okM a b m then subN a b m else 0), .int .i64 (if okM a b m then 0 else 1)]) ∧ Below w.heap.size w w' := by
  have hd := fun w => deed_sub a b m ha hb hm w
  generalize (if okM a b m then subN a b m else 0) = res at *
  generalize (if okM a b m then (0 : Int) else 1) = er at *
  have hR := Rep.init w
  go_enter Tryz.func40, Tryz.ntmps40
  go_wp2_with (first | (refine' xAb hR rfl rfl rfl ?_; clear hR; intro blk w hR) | (refine' xAa hR rfl rfl inferInstance ?_; clear hR; intro blk w hR) | (refine' aAq hR rfl rfl rfl inferInstance ?_) | (refine' aBq hR rfl rfl rfl inferInstance ?_) | (refine' aCq hR rfl rfl rfl inferInstance ?_) | (refine' aDq hR rfl rfl rfl inferInstance rfl ?_; clear hR; intro w hR) | (refine' aEq hR rfl rfl rfl inferInstance rfl rfl ?_; clear hR; intro w hR) | (go_at_call 53; refine (hd _).mono ?_; rintro e w ⟨rfl, hb⟩; replace hR := hR.call hb; clear hb))
  (refine' bodyPost_ret (xAz Tryz.results40 rfl (hR.loadAll (P := Tryz.prog) (ty := 24) ?hm ?hn)) rfl ⟨?_, hR.below⟩; (case hm => first | with_reducible assumption | repeat (first | exact .head _ | apply mT)); (case hn => first | rfl | simp))
  rfl
set_option maxRecDepth 100000 in
set_option maxHeartbeats 2000000 in
theorem deed_mul (a b m : Nat) (ha : a < B) (hb : b < B) (hm : m < B) (w : World) : Calls Tryz.prog 53 #[.agg #[.func (.func 52) #[] #[]], num a, num b, num m] w fun e w' =>
    e = .returned (.tuple #[num (if okM a b m then mulN a b m else 0), .int .i64 (if okM a b m then 0 else 1)]) ∧ Below w.heap.size w w' := by
  obtain ⟨n1, h1⟩ : ∃ n, n = 1 := ⟨_, rfl⟩
  have o1 : ∀ w, Calls Tryz.prog 39 #[.int .u64 1] w fun e w' => e = .returned (num n1) ∧ Below w.heap.size w w' := fun w => by
    rw [h1]; exact of_any 1 (by decide) w
  have L1 : n1 < B := lt_B (by omega)
  have c1 := cmp_lit hm L1 rfl
  have c2 := cmp_lit ha hm rfl
  have c3 := cmp_lit hb hm rfl
  have k1 := cmpN_le m n1
  have k2 := cmpN_ge a m
  have k3 := cmpN_ge b m
  by_cases ok : okM a b m
  · rw [if_pos ok, if_pos ok]
    have hd := fun w => timesm_any a b m ok.2.1 ok.2.2 hm w
    generalize mulN a b m = res at *
    have j1 : ¬ cmpN m n1 ≤ 0 := fun h => by have := k1.mp h; have := ok.1; omega
    have j2 : ¬ 0 ≤ cmpN a m := fun h => by have := k2.mp h; have := ok.2.1; omega
    have j3 : ¬ 0 ≤ cmpN b m := fun h => by have := k3.mp h; have := ok.2.2; omega
    generalize cmpN m n1 = x1 at *
    generalize cmpN a m = x2 at *
    generalize cmpN b m = x3 at *
    have q1 : decide (x1 ≤ 0) = false := decide_eq_false j1
    have q2 : decide (0 ≤ x2) = false := decide_eq_false j2
    have q3 : decide (0 ≤ x3) = false := decide_eq_false j3
    clear k1 k2 k3 ok L1 h1 j1 j2 j3
    have hR := Rep.init w
    go_enter Tryz.func53, Tryz.ntmps53
    go_wp2_with (first | (refine' xAb hR rfl rfl rfl ?_; clear hR; intro blk w hR) | (refine' xAa hR rfl rfl inferInstance ?_; clear hR; intro blk w hR) | (refine' aAq hR rfl rfl rfl inferInstance ?_) | (refine' aBq hR rfl rfl rfl inferInstance ?_) | (refine' aCq hR rfl rfl rfl inferInstance ?_) | (refine' aDq hR rfl rfl rfl inferInstance rfl ?_; clear hR; intro w hR) | (refine' aEq hR rfl rfl rfl inferInstance rfl rfl ?_; clear hR; intro w hR) | fail)
    refine xAg hR [0, 0, 0, 0, 0, 0, 0, 0, 0, 0, 0, 0, 0, 0, 0, 0] [] xCt (by kernel_rfl) rfl rfl (fun K hK => ?_)
    clear hR
    repeat ((first | (refine xBj ?_) | (refine' xAs (by decide) rfl (.inl rfl) rfl ?ha ?_) | (refine' xAs (by decide) rfl (.inr rfl) rfl ?ha ?_) | (refine' xAr rfl rfl rfl inferInstance ?hm ?hn ?ha ?_; (case hm => first | with_reducible assumption | repeat (first | exact .head _ | apply mT)); (case hn => first | rfl | simp)) | (refine' xAm rfl rfl rfl inferInstance ?hm ?hv ?hn ?ha ?_; (case hm => first | with_reducible assumption | repeat (first | exact .head _ | apply mT)); (case hv => first | with_reducible assumption | (simp only [kC, kD, kE, kF]; try rfl)); (case hn => first | rfl | simp)) | (refine' xAi rfl rfl rfl inferInstance ?hm ?hv ?ha ?_; (case hm => first | with_reducible assumption | repeat (first | exact .head _ | apply mT)); (case hv => first | rfl | with_reducible assumption)) | (refine' xAn rfl rfl rfl inferInstance ?hm ?hv ?hn ?ha ?_; (case hm => first | with_reducible assumption | repeat (first | exact .head _ | apply mT)); (case hv => first | with_reducible assumption | (simp only [kC, kD, kE, kF]; try rfl)); (case hn => first | rfl | simp)) | (refine' xAj rfl rfl rfl inferInstance ?hm ?hv ?ha ?_; (case hm => first | with_reducible assumption | repeat (first | exact .head _ | apply mT)); (case hv => first | rfl | with_reducible assumption)) | ((first | refine' xAd (by decide) rfl rfl rfl rfl (fun w => ?hq) ?ha ?_ | refine' xBf (by decide) rfl rfl rfl rfl (fun w => ?hq) ?ha ?_ | refine' xAp (by decide) rfl rfl rfl (fun w => ?hq) ?ha ?_ | refine' xAe (by decide) rfl rfl rfl (fun w => ?hq) ?ha ?_ | refine' xAo (by decide) rfl rfl rfl (fun w => ?hq) ?ha ?_ | refine' xBd (by decide) rfl rfl rfl rfl (fun w => ?hq) ?ha ?_ | refine' xBc (by decide) rfl rfl rfl rfl rfl rfl (fun w => ?hq) ?ha ?_ | refine' xBb (by decide) rfl rfl (fun w => ?hq) ?ha ?_ | refine' xAq (by decide) rfl rfl rfl (fun w => ?hq) ?ha ?_ | refine' xBe (by decide) rfl rfl rfl (fun w => ?hq) ?ha ?_); (case hq => go_simp; try rfl)) | (refine' xAh (by decide) rfl rfl rfl ?ha ?_) | (refine' xBl (by decide) rfl rfl rfl rfl ?ha ?_) | (refine' xBk (by decide) rfl ?ha ?_) | (refine' xBg rfl rfl rfl (xBi Tryz.func39 (by kernel_rfl) (by kernel_rfl) _) (fun w => o1 w) ?ha ?_) | (refine' xBg rfl rfl rfl (xBi Tryz.func41 (by kernel_rfl) (by kernel_rfl) _) (fun w => c1 w) ?ha ?_) | (refine' xBg rfl rfl rfl (xBi Tryz.func41 (by kernel_rfl) (by kernel_rfl) _) (fun w => c2 w) ?ha ?_) | (refine' xBg rfl rfl rfl (xBi Tryz.func41 (by kernel_rfl) (by kernel_rfl) _) (fun w => c3 w) ?ha ?_)); try (case ha => simp only [kP, kQ, kA, kB]; try rfl))
    refine xBs (hK _ _ ?_)
    clear hK K
    refine xBx (fun Q hQ => ?_)
    try simp only [List.nil_append, List.cons_append]
    repeat ((first | refine' xBa rfl (.inl rfl) rfl ?hk ?ha ?_ | refine' xBa rfl (.inr rfl) rfl ?hk ?ha ?_ | (refine' xAv rfl rfl rfl inferInstance rfl ?hs rfl rfl ?hn ?hk ?ha ?_; (case hs => repeat (first | exact xAx.head | apply xAx.tail)); (case hn => first | rfl | simp)) | (refine' xAl rfl rfl rfl inferInstance rfl rfl ?hs ?hn ?hl ?hk ?ha ?_; (case hs => repeat (first | exact xAx.head | apply xAx.tail)); (case hn => first | exact oD rfl | (show _ < 4; with_reducible assumption) | (simp; try omega)); (case hl => first | with_reducible assumption | (simp only [nl, kA, kB]; first | done | rfl) | rfl)) | (refine' xAw rfl rfl rfl inferInstance rfl rfl ?hvn ?hs ?hn ?hl ?hk ?ha ?_; (case hvn => first | rfl | simp); (case hs => repeat (first | exact xAx.head | apply xAx.tail)); (case hn => first | exact oD rfl | (show _ < 4; with_reducible assumption) | (simp; try omega)); (case hl => first | with_reducible assumption | (simp only [nl, kA, kB]; first | done | rfl) | rfl)) | (refine' xBm rfl (fun w => ?hq) ?hk ?ha ?_; (case hq => go_simp; try rfl))); (case hk => intro p hp; first | exact absurd hp List.not_mem_nil | (obtain rfl := List.mem_singleton.1 hp; repeat (first | exact List.Mem.head _ | apply mT))); (case ha => simp only [kP, kQ, kA, kB]; try rfl))
    refine xBw (fun w hR => hQ _ _ ?_)
    clear hQ Q
    go_wp2_with (first | (refine' xAb hR rfl rfl rfl ?_; clear hR; intro blk w hR) | (refine' xAa hR rfl rfl inferInstance ?_; clear hR; intro blk w hR) | (refine' aAq hR rfl rfl rfl inferInstance ?_) | (refine' aBq hR rfl rfl rfl inferInstance ?_) | (refine' aCq hR rfl rfl rfl inferInstance ?_) | (refine' aDq hR rfl rfl rfl inferInstance rfl ?_; clear hR; intro w hR) | (refine' aEq hR rfl rfl rfl inferInstance rfl rfl ?_; clear hR; intro w hR) | (go_at_call 52; refine (hd _).mono ?_; rintro e w ⟨rfl, hb⟩; replace hR := hR.call hb; clear hb))
    (refine' bodyPost_ret (xAz Tryz.results53 rfl (hR.loadAll (P := Tryz.prog) (ty := 24) ?hm ?hn)) rfl ⟨?_, hR.below⟩; (case hm => first | with_reducible assumption | repeat (first | exact .head _ | apply mT)); (case hn => first | rfl | simp))
    rfl
  · rw [if_neg ok, if_neg ok]
    have hc : decide (cmpN m n1 ≤ 0) = true ∨ (decide (cmpN m n1 ≤ 0) = false ∧ decide (0 ≤ cmpN a m) = true) ∨ (decide (cmpN m n1 ≤ 0) = false ∧ decide (0 ≤ cmpN a m) = false ∧ decide (0 ≤ cmpN b m) = true) := by
      simp only [decide_eq_true_iff, decide_eq_false_iff_not]
      rw [k1, k2, k3]
      unfold okM at ok
      omega
    generalize cmpN m n1 = x1 at *
    generalize cmpN a m = x2 at *
    generalize cmpN b m = x3 at *
    clear k1 k2 k3 ok L1 h1
    have hR := Rep.init w
    rcases hc with j1 | ⟨j1, j2⟩ | ⟨j1, j2, j3⟩
    all_goals
      go_enter Tryz.func53, Tryz.ntmps53
      go_wp2_with (first | (refine' xAb hR rfl rfl rfl ?_; clear hR; intro blk w hR) | (refine' xAa hR rfl rfl inferInstance ?_; clear hR; intro blk w hR) | (refine' aAq hR rfl rfl rfl inferInstance ?_) | (refine' aBq hR rfl rfl rfl inferInstance ?_) | (refine' aCq hR rfl rfl rfl inferInstance ?_) | (refine' aDq hR rfl rfl rfl inferInstance rfl ?_; clear hR; intro w hR) | (refine' aEq hR rfl rfl rfl inferInstance rfl rfl ?_; clear hR; intro w hR) | fail)
      refine xAg hR [0, 0, 0, 0, 0, 0, 0, 0, 0, 0, 0, 0, 0, 0, 0, 0] [] xCt (by kernel_rfl) rfl rfl (fun K hK => ?_)
      clear hR
      repeat ((first | (refine xBj ?_) | (refine' xAs (by decide) rfl (.inl rfl) rfl ?ha ?_) | (refine' xAs (by decide) rfl (.inr rfl) rfl ?ha ?_) | (refine' xAr rfl rfl rfl inferInstance ?hm ?hn ?ha ?_; (case hm => first | with_reducible assumption | repeat (first | exact .head _ | apply mT)); (case hn => first | rfl | simp)) | (refine' xAm rfl rfl rfl inferInstance ?hm ?hv ?hn ?ha ?_; (case hm => first | with_reducible assumption | repeat (first | exact .head _ | apply mT)); (case hv => first | with_reducible assumption | (simp only [kC, kD, kE, kF]; try rfl)); (case hn => first | rfl | simp)) | (refine' xAi rfl rfl rfl inferInstance ?hm ?hv ?ha ?_; (case hm => first | with_reducible assumption | repeat (first | exact .head _ | apply mT)); (case hv => first | rfl | with_reducible assumption)) | (refine' xAn rfl rfl rfl inferInstance ?hm ?hv ?hn ?ha ?_; (case hm => first | with_reducible assumption | repeat (first | exact .head _ | apply mT)); (case hv => first | with_reducible assumption | (simp only [kC, kD, kE, kF]; try rfl)); (case hn => first | rfl | simp)) | (refine' xAj rfl rfl rfl inferInstance ?hm ?hv ?ha ?_; (case hm => first | with_reducible assumption | repeat (first | exact .head _ | apply mT)); (case hv => first | rfl | with_reducible assumption)) | ((first | refine' xAd (by decide) rfl rfl rfl rfl (fun w => ?hq) ?ha ?_ | refine' xBf (by decide) rfl rfl rfl rfl (fun w => ?hq) ?ha ?_ | refine' xAp (by decide) rfl rfl rfl (fun w => ?hq) ?ha ?_ | refine' xAe (by decide) rfl rfl rfl (fun w => ?hq) ?ha ?_ | refine' xAo (by decide) rfl rfl rfl (fun w => ?hq) ?ha ?_ | refine' xBd (by decide) rfl rfl rfl rfl (fun w => ?hq) ?ha ?_ | refine' xBc (by decide) rfl rfl rfl rfl rfl rfl (fun w => ?hq) ?ha ?_ | refine' xBb (by decide) rfl rfl (fun w => ?hq) ?ha ?_ | refine' xAq (by decide) rfl rfl rfl (fun w => ?hq) ?ha ?_ | refine' xBe (by decide) rfl rfl rfl (fun w => ?hq) ?ha ?_); (case hq => go_simp; try rfl)) | (refine' xAh (by decide) rfl rfl rfl ?ha ?_) | (refine' xBl (by decide) rfl rfl rfl rfl ?ha ?_) | (refine' xBk (by decide) rfl ?ha ?_) | (refine' xBg rfl rfl rfl (xBi Tryz.func39 (by kernel_rfl) (by kernel_rfl) _) (fun w => o1 w) ?ha ?_) | (refine' xBg rfl rfl rfl (xBi Tryz.func41 (by kernel_rfl) (by kernel_rfl) _) (fun w => c1 w) ?ha ?_) | (refine' xBg rfl rfl rfl (xBi Tryz.func41 (by kernel_rfl) (by kernel_rfl) _) (fun w => c2 w) ?ha ?_) | (refine' xBg rfl rfl rfl (xBi Tryz.func41 (by kernel_rfl) (by kernel_rfl) _) (fun w => c3 w) ?ha ?_)); try (case ha => simp only [kP, kQ, kA, kB]; try rfl))
      refine xBs (hK _ _ ?_)
      clear hK K
      refine xBx (fun Q hQ => ?_)
      try simp only [List.nil_append, List.cons_append]
      repeat ((first | refine' xBa rfl (.inl rfl) rfl ?hk ?ha ?_ | refine' xBa rfl (.inr rfl) rfl ?hk ?ha ?_ | (refine' xAv rfl rfl rfl inferInstance rfl ?hs rfl rfl ?hn ?hk ?ha ?_; (case hs => repeat (first | exact xAx.head | apply xAx.tail)); (case hn => first | rfl | simp)) | (refine' xAl rfl rfl rfl inferInstance rfl rfl ?hs ?hn ?hl ?hk ?ha ?_; (case hs => repeat (first | exact xAx.head | apply xAx.tail)); (case hn => first | exact oD rfl | (show _ < 4; with_reducible assumption) | (simp; try omega)); (case hl => first | with_reducible assumption | (simp only [nl, kA, kB]; first | done | rfl) | rfl)) | (refine' xAw rfl rfl rfl inferInstance rfl rfl ?hvn ?hs ?hn ?hl ?hk ?ha ?_; (case hvn => first | rfl | simp); (case hs => repeat (first | exact xAx.head | apply xAx.tail)); (case hn => first | exact oD rfl | (show _ < 4; with_reducible assumption) | (simp; try omega)); (case hl => first | with_reducible assumption | (simp only [nl, kA, kB]; first | done | rfl) | rfl)) | (refine' xBm rfl (fun w => ?hq) ?hk ?ha ?_; (case hq => go_simp; try rfl))); (case hk => intro p hp; first | exact absurd hp List.not_mem_nil | (obtain rfl := List.mem_singleton.1 hp; repeat (first | exact List.Mem.head _ | apply mT))); (case ha => simp only [kP, kQ, kA, kB]; try rfl))
      refine xBw (fun w hR => hQ _ _ ?_)
      clear hQ Q
      go_wp2_with (first | (refine' xAb hR rfl rfl rfl ?_; clear hR; intro blk w hR) | (refine' xAa hR rfl rfl inferInstance ?_; clear hR; intro blk w hR) | (refine' aAq hR rfl rfl rfl inferInstance ?_) | (refine' aBq hR rfl rfl rfl inferInstance ?_) | (refine' aCq hR rfl rfl rfl inferInstance ?_) | (refine' aDq hR rfl rfl rfl inferInstance rfl ?_; clear hR; intro w hR) | (refine' aEq hR rfl rfl rfl inferInstance rfl rfl ?_; clear hR; intro w hR) | fail)
      (refine' bodyPost_ret (xAz Tryz.results53 rfl (hR.loadAll (P := Tryz.prog) (ty := 24) ?hm ?hn)) rfl ⟨?_, hR.below⟩; (case hm => first | with_reducible assumption | repeat (first | exact .head _ | apply mT)); (case hn => first | rfl | simp))
      rw [xCs]
      rfl
set_option maxRecDepth 100000 in
set_option maxHeartbeats 1000000 in
theorem mods_mul (a b m : Nat) (ha : a < B) (hb : b < B) (hm : m < B) (w : World) : Calls Tryz.prog 30 #[num a, num b, num m] w fun e w' =>
    e = .returned (.tuple #[num (if okM a b m then mulN a b m else 0), .int .i64 (if okM a b m then 0 else 1)]) ∧ Below w.heap.size w w' := by
  have hd := fun w => deed_mul a b m ha hb hm w
  generalize (if okM a b m then mulN a b m else 0) = res at *
  generalize (if okM a b m then (0 : Int) else 1) = er at *
  have hR := Rep.init w
  go_enter Tryz.func30, Tryz.ntmps30
  go_wp2_with (first | (refine' xAb hR rfl rfl rfl ?_; clear hR; intro blk w hR) | (refine' xAa hR rfl rfl inferInstance ?_; clear hR; intro blk w hR) | (refine' aAq hR rfl rfl rfl inferInstance ?_) | (refine' aBq hR rfl rfl rfl inferInstance ?_) | (refine' aCq hR rfl rfl rfl inferInstance ?_) | (refine' aDq hR rfl rfl rfl inferInstance rfl ?_; clear hR; intro w hR) | (refine' aEq hR rfl rfl rfl inferInstance rfl rfl ?_; clear hR; intro w hR) | (go_at_call 53; refine (hd _).mono ?_; rintro e w ⟨rfl, hb⟩; replace hR := hR.call hb; clear hb))
  (refine' bodyPost_ret (xAz Tryz.results30 rfl (hR.loadAll (P := Tryz.prog) (ty := 24) ?hm ?hn)) rfl ⟨?_, hR.below⟩; (case hm => first | with_reducible assumption | repeat (first | exact .head _ | apply mT)); (case hn => first | rfl | simp))
  rfl
end Go.Proofs.YtgfoeongjhkdmaaGreat
namespace Go.Proofs.YtgfoeongjhkdmaaGreat
open Go.RowKit
section
variable {P : Program} {ops : Array Oper} {B0 : Nat} {w0 : World} {Kp : List (Nat × Obj)} {Q : Exit → Act → World → Prop}
def RepEq (B0 : Nat) (w0 : World) (L L2 : List (Nat × Obj)) : Prop := ∀ M, Rep B0 w0 (M ++ L) = Rep B0 w0 (M ++ L2)
theorem RepEq.refl (L : List (Nat × Obj)) : RepEq B0 w0 L L := fun _ => rfl
theorem RepEq.trans {L L2 L3 : List (Nat × Obj)} (h : RepEq B0 w0 L L2) (k : RepEq B0 w0 L2 L3) : RepEq B0 w0 L L3 := fun M => (h M).trans (k M)
theorem RepEq.cons {L L2 : List (Nat × Obj)} (p : Nat × Obj) (h : RepEq B0 w0 L L2) : RepEq B0 w0 (p :: L) (p :: L2) := fun M => by
  have := h (M ++ [p])
  simpa using this
structure Al where
  i : Nat
  d : Tmp
  o : Oper
  z : Obj
def AllAl (P : Program) (ops : Array Oper) : List Al → Prop
  | [] => True
  | x :: R => (ops[x.i]? = some x.o ∧ x.o.dst = some x.d ∧ IsAlloc P x.o x.z) ∧ AllAl P ops R
theorem AllAl.nil : AllAl P ops [] := trivial
theorem AllAl.cons {i : Nat} {d : Tmp} {o : Oper} {z : Obj} {R : List Al} (h1 : ops[i]? = some o) (h2 : o.dst = some d) (h3 : IsAlloc P o z) (h : AllAl P ops R) : AllAl P ops (⟨i, d, o, z⟩ :: R) := ⟨⟨h1, h2, h3⟩, h⟩
theorem AllAl.of {R : List Al} (h : ∀ x ∈ R, ops[x.i]? = some x.o ∧ x.o.dst = some x.d ∧ IsAlloc P x.o x.z) : AllAl P ops R := by
  induction R with
  | nil => exact trivial
  | cons x R ih => exact ⟨h x (.head _), ih fun y hy => h y (.tail _ hy)⟩
end
end Go.Proofs.YtgfoeongjhkdmaaGreat
