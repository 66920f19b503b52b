/- The contracts of limbs.times, limbs.Mul. -/
import Derived.Test.YtgfoeongjhkdmaaGreatRH
set_option linter.unusedVariables false
set_option linter.unusedSimpArgs false
namespace Go.Proofs.YtgfoeongjhkdmaaGreat
open Go.RowKit
noncomputable def mhi : Nat → Nat → Nat := opq fun a b => a * b / 18446744073709551616
noncomputable def mlo : Nat → Nat → Nat := opq fun a b => a * b % 18446744073709551616
theorem mhi_def (a b : Nat) : mhi a b = a * b / 18446744073709551616 := by unfold mhi; rw [xCe]
theorem mlo_def (a b : Nat) : mlo a b = a * b % 18446744073709551616 := by unfold mlo; rw [xCe]
theorem mlo_lt (a b : Nat) : mlo a b < 18446744073709551616 := by rw [mlo_def]; exact Nat.mod_lt _ (by decide)
theorem mhi_lt {a b : Nat} (ha : a < 18446744073709551616) (hb : b < 18446744073709551616) : mhi a b ≤ 18446744073709551614 := by
  rw [mhi_def]
  have : a * b ≤ 18446744073709551615 * 18446744073709551615 := Nat.mul_le_mul (by omega) (by omega)
  omega
theorem mul64_any (a b : Nat) (ha : a < 18446744073709551616) (hb : b < 18446744073709551616) (w : World) : Calls Tryz.prog 81 #[.int .u64 (a : Int), .int .u64 (b : Int)] w fun e w' =>
    e = .returned (.tuple #[.int .u64 (mhi a b : Int), .int .u64 (mlo a b : Int)]) ∧ Below w.heap.size w w' := by rw [mhi_def, mlo_def]; exact Calls.below (Tryz.bits_Mul64 a b ha hb w)
theorem times_low (p s m l h : Int) (s0 : 0 ≤ s ∧ s < 18446744073709551616) (m0 : 0 ≤ m ∧ m < 18446744073709551616) (hp : p = l + 18446744073709551616 * h) (l0 : 0 ≤ l ∧ l < 18446744073709551616) :
    sm (sm l s 0) m 0 = (p + s + m) % 18446744073709551616 := by
  simp only [sm_def]; omega
theorem times_high (p s m l h : Int) (s0 : 0 ≤ s ∧ s < 18446744073709551616) (m0 : 0 ≤ m ∧ m < 18446744073709551616) (hp : p = l + 18446744073709551616 * h) (l0 : 0 ≤ l ∧ l < 18446744073709551616) (h0 : 0 ≤ h ∧ h ≤ 18446744073709551614) (hc : p ≤ 18446744073709551615 * 18446744073709551615) :
    h + ca l s 0 + ca (sm l s 0) m 0 = (p + s + m) / 18446744073709551616 := by
  simp only [sm_def, ca_def]; omega
theorem times_q (a b : Nat) (s m : Int) (ha : a < 18446744073709551616) (hb : b < 18446744073709551616) (hs0 : 0 ≤ s) (hs : s < 18446744073709551616) (hm0 : 0 ≤ m) (hm : m < 18446744073709551616) :
    (mhi a b : Int) + ca (mlo a b : Int) s 0 < 18446744073709551616 ∧ (mhi a b : Int) + ca (mlo a b : Int) s 0 + ca (sm (mlo a b : Int) s 0) m 0 < 18446744073709551616 ∧
    0 ≤ sm (sm (mlo a b : Int) s 0) m 0 ∧ sm (sm (mlo a b : Int) s 0) m 0 < 18446744073709551616 ∧
    sm (sm (mlo a b : Int) s 0) m 0 + 18446744073709551616 * ((mhi a b : Int) + ca (mlo a b : Int) s 0 + ca (sm (mlo a b : Int) s 0) m 0) = (a : Int) * b + s + m := by
  have l0 := mlo_lt a b
  have h0 := mhi_lt ha hb
  have p1 : 0 ≤ (mlo a b : Int) := by omega
  have j1 := ca_hi (mlo a b : Int) s 0 (by omega) (by omega) (by decide)
  have hp : ((a * b : Nat) : Int) = (mlo a b : Int) + 18446744073709551616 * (mhi a b : Int) := by rw [mlo_def, mhi_def]; omega
  have hc : a * b ≤ 18446744073709551615 * 18446744073709551615 := Nat.mul_le_mul (by omega) (by omega)
  have e1 := times_low _ s m _ _ (by omega) (by omega) hp (by omega)
  have e2 := times_high _ s m _ _ (by omega) (by omega) hp (by omega) (by omega) (by omega)
  rw [← Int.natCast_mul]
  rw [e1, e2]
  refine ⟨by omega, by omega, by omega, by omega, by omega⟩
set_option maxRecDepth 100000 in
set_option maxHeartbeats 1000000 in
theorem times_any (a b s m : Int) (ha0 : 0 ≤ a) (ha : a < 18446744073709551616) (hb0 : 0 ≤ b) (hb : b < 18446744073709551616) (hs0 : 0 ≤ s) (hs : s < 18446744073709551616) (hm0 : 0 ≤ m) (hm : m < 18446744073709551616) (w : World) :
    Calls Tryz.prog 103 #[.int .u64 a, .int .u64 b, .int .u64 s, .int .u64 m] w fun e w' =>
    ∃ l h : Int, 0 ≤ l ∧ l < 18446744073709551616 ∧ 0 ≤ h ∧ h < 18446744073709551616 ∧ l + 18446744073709551616 * h = a * b + s + m ∧ e = .returned (.tuple #[.int .u64 l, .int .u64 h]) ∧ Below w.heap.size w w' := by
  obtain ⟨a, rfl⟩ := Int.eq_ofNat_of_zero_le ha0
  obtain ⟨b, rfl⟩ := Int.eq_ofNat_of_zero_le hb0
  have hR := Rep.init w
  have l0 := mlo_lt a b
  have h0 := mhi_lt (a := a) (b := b) (by omega) (by omega)
  have p1 : 0 ≤ (mlo a b : Int) := by omega
  have p2 : (mlo a b : Int) < 18446744073709551616 := by omega
  have k1 := ca_lo (mlo a b : Int) s 0 p1 hs0 (by decide)
  have j1 := ca_hi (mlo a b : Int) s 0 p2 (by omega) (by decide)
  have q1 : 0 ≤ sm (mlo a b : Int) s 0 := by rw [sm_def]; omega
  have q2 : sm (mlo a b : Int) s 0 < 18446744073709551616 := by rw [sm_def]; omega
  have k2 := ca_lo (sm (mlo a b : Int) s 0) m 0 q1 hm0 (by decide)
  have j2 := ca_hi (sm (mlo a b : Int) s 0) m 0 q2 (by omega) (by decide)
  obtain ⟨t1, t2, t3, t4, -⟩ := times_q a b s m (by omega) (by omega) hs0 hs hm0 hm
  clear l0 h0
  go_enter Tryz.func103, Tryz.ntmps103
  go_wp2_with (first | (refine' xAb hR rfl rfl rfl ?_; clear hR; intro blk w hR) | (refine' xAa hR rfl rfl inferInstance ?_; clear hR; intro blk w hR) | (refine' aAq hR rfl rfl rfl inferInstance ?_) | (refine' aBq hR rfl rfl rfl inferInstance ?_) | (refine' aCq hR rfl rfl rfl inferInstance ?_) | (refine' aDq hR rfl rfl rfl inferInstance rfl ?_; clear hR; intro w hR) | (refine' aEq hR rfl rfl rfl inferInstance rfl rfl ?_; clear hR; intro w hR) | (go_at_call 81; refine (mul64_any a b (by omega) (by omega) _).mono ?_; rintro e w ⟨rfl, hb⟩; replace hR := hR.call hb; clear hb) | (rw [add64']; (case hx => omega); (case hy => omega); (try (case hy' => omega)); (case hc0 => omega); (case hc => omega)))
  go_ret2
  exact ⟨_, _, t3, t4, by omega, t2, (times_q a b s m (by omega) (by omega) hs0 hs hm0 hm).2.2.2.2, rfl, hR.below⟩
theorem w_zz : (0 : Int) ≤ 0 ∧ (0 : Int) < 18446744073709551616 := ⟨Int.le_refl 0, by decide⟩
theorem xDn (a b s m : Int) (ha : 0 ≤ a ∧ a < 18446744073709551616) (hb : 0 ≤ b ∧ b < 18446744073709551616) (hs : 0 ≤ s ∧ s < 18446744073709551616) (hm : 0 ≤ m ∧ m < 18446744073709551616) (w : World) :
    Calls Tryz.prog 103 #[.int .u64 a, .int .u64 b, .int .u64 s, .int .u64 m] w fun e w' =>
    ∃ l h : Int, 0 ≤ l ∧ l < 18446744073709551616 ∧ 0 ≤ h ∧ h < 18446744073709551616 ∧ l + 18446744073709551616 * h = a * b + s + m ∧ e = .returned (.tuple #[.int .u64 l, .int .u64 h]) ∧ Below w.heap.size w w' :=
  times_any a b s m ha.1 ha.2 hb.1 hb.2 hs.1 hs.2 hm.1 hm.2 w
instance : RowT Tryz.prog 108 8 := .mk' (by kernel_rfl) (by kernel_rfl)
instance : ZeroT Tryz.prog 108 [.int .u64 0, .int .u64 0, .int .u64 0, .int .u64 0, .int .u64 0, .int .u64 0, .int .u64 0, .int .u64 0] := ⟨.agg #[.int .u64 0, .int .u64 0, .int .u64 0, .int .u64 0, .int .u64 0, .int .u64 0, .int .u64 0, .int .u64 0], by kernel_rfl, rfl⟩
theorem mul_core (x0 x1 x2 x3 y0 y1 y2 y3 l00 l01 l02 l03 l10 l11 l12 l13 l20 l21 l22 l23 l30 l31 l32 l33 h00 h01 h02 h03 h10 h11 h12 h13 h20 h21 h22 h23 h30 h31 h32 h33 : Int)
    (e00 : l00 + 18446744073709551616 * h00 = x0 * y0 + 0 + 0)
    (e01 : l01 + 18446744073709551616 * h01 = x0 * y1 + 0 + h00)
    (e02 : l02 + 18446744073709551616 * h02 = x0 * y2 + 0 + h01)
    (e03 : l03 + 18446744073709551616 * h03 = x0 * y3 + 0 + h02)
    (e10 : l10 + 18446744073709551616 * h10 = x1 * y0 + l01 + 0)
    (e11 : l11 + 18446744073709551616 * h11 = x1 * y1 + l02 + h10)
    (e12 : l12 + 18446744073709551616 * h12 = x1 * y2 + l03 + h11)
    (e13 : l13 + 18446744073709551616 * h13 = x1 * y3 + h03 + h12)
    (e20 : l20 + 18446744073709551616 * h20 = x2 * y0 + l11 + 0)
    (e21 : l21 + 18446744073709551616 * h21 = x2 * y1 + l12 + h20)
    (e22 : l22 + 18446744073709551616 * h22 = x2 * y2 + l13 + h21)
    (e23 : l23 + 18446744073709551616 * h23 = x2 * y3 + h13 + h22)
    (e30 : l30 + 18446744073709551616 * h30 = x3 * y0 + l21 + 0)
    (e31 : l31 + 18446744073709551616 * h31 = x3 * y1 + l22 + h30)
    (e32 : l32 + 18446744073709551616 * h32 = x3 * y2 + l23 + h31)
    (e33 : l33 + 18446744073709551616 * h33 = x3 * y3 + h23 + h32)
    :
    ((x0 + 18446744073709551616 * (x1 + 18446744073709551616 * (x2 + 18446744073709551616 * x3))) * (y0 + 18446744073709551616 * (y1 + 18446744073709551616 * (y2 + 18446744073709551616 * y3)))) =
      (l00 + 18446744073709551616 * (l10 + 18446744073709551616 * (l20 + 18446744073709551616 * l30))) + (l31 + 18446744073709551616 * (l32 + 18446744073709551616 * (l33 + 18446744073709551616 * h33))) * (18446744073709551616 * 18446744073709551616 * 18446744073709551616 * 18446744073709551616) := by
  have d : ((x0 + 18446744073709551616 * (x1 + 18446744073709551616 * (x2 + 18446744073709551616 * x3))) * (y0 + 18446744073709551616 * (y1 + 18446744073709551616 * (y2 + 18446744073709551616 * y3)))) =
     (x0 * y0 + 18446744073709551616 * (x0 * y1 + 18446744073709551616 * (x0 * y2 + 18446744073709551616 * (x0 * y3)))) + 18446744073709551616 * ((x1 * y0 + 18446744073709551616 * (x1 * y1 + 18446744073709551616 * (x1 * y2 + 18446744073709551616 * (x1 * y3)))) +
     18446744073709551616 * ((x2 * y0 + 18446744073709551616 * (x2 * y1 + 18446744073709551616 * (x2 * y2 + 18446744073709551616 * (x2 * y3)))) + 18446744073709551616 * (x3 * y0 + 18446744073709551616 * (x3 * y1 + 18446744073709551616 * (x3 * y2 + 18446744073709551616 * (x3 * y3)))))) := by grind
  rw [d]
  generalize x0 * y0 = p00 at e00 ⊢
  generalize x0 * y1 = p01 at e01 ⊢
  generalize x0 * y2 = p02 at e02 ⊢
  generalize x0 * y3 = p03 at e03 ⊢
  generalize x1 * y0 = p10 at e10 ⊢
  generalize x1 * y1 = p11 at e11 ⊢
  generalize x1 * y2 = p12 at e12 ⊢
  generalize x1 * y3 = p13 at e13 ⊢
  generalize x2 * y0 = p20 at e20 ⊢
  generalize x2 * y1 = p21 at e21 ⊢
  generalize x2 * y2 = p22 at e22 ⊢
  generalize x2 * y3 = p23 at e23 ⊢
  generalize x3 * y0 = p30 at e30 ⊢
  generalize x3 * y1 = p31 at e31 ⊢
  generalize x3 * y2 = p32 at e32 ⊢
  generalize x3 * y3 = p33 at e33 ⊢
  clear d
  omega
theorem mul_fin (a b : Nat) (ha : a < B) (hb : b < B) (r0 r1 r2 r3 r4 r5 r6 r7 : Int) (h0 : 0 ≤ r0 ∧ r0 < 18446744073709551616) (h1 : 0 ≤ r1 ∧ r1 < 18446744073709551616) (h2 : 0 ≤ r2 ∧ r2 < 18446744073709551616) (h3 : 0 ≤ r3 ∧ r3 < 18446744073709551616)
    (h4 : 0 ≤ r4 ∧ r4 < 18446744073709551616) (h5 : 0 ≤ r5 ∧ r5 < 18446744073709551616) (h6 : 0 ≤ r6 ∧ r6 < 18446744073709551616) (h7 : 0 ≤ r7 ∧ r7 < 18446744073709551616)
    (h : ((wd a 0 + 18446744073709551616 * (wd a 1 + 18446744073709551616 * (wd a 2 + 18446744073709551616 * wd a 3))) * (wd b 0 + 18446744073709551616 * (wd b 1 + 18446744073709551616 * (wd b 2 + 18446744073709551616 * wd b 3)))) =
      (r0 + 18446744073709551616 * (r1 + 18446744073709551616 * (r2 + 18446744073709551616 * r3))) + (r4 + 18446744073709551616 * (r5 + 18446744073709551616 * (r6 + 18446744073709551616 * r7))) * (18446744073709551616 * 18446744073709551616 * 18446744073709551616 * 18446744073709551616)) :
    [Value.int .u64 r0, .int .u64 r1, .int .u64 r2, .int .u64 r3] = nl (a * b) ∧ [Value.int .u64 r4, .int .u64 r5, .int .u64 r6, .int .u64 r7] = nl (a * b / B) := by
  rw [← four a ha, ← four b hb, ← Int.natCast_mul] at h
  have hB : (B : Int) = 18446744073709551616 * 18446744073709551616 * 18446744073709551616 * 18446744073709551616 := by rw [B_eq]; rfl
  rw [← hB] at h
  refine ⟨nl_eq _ _ _ _ _ h0 h1 h2 h3 (r4 + 18446744073709551616 * (r5 + 18446744073709551616 * (r6 + 18446744073709551616 * r7))) h, nl_eq _ _ _ _ _ h4 h5 h6 h7 0 ?_⟩
  rw [Int.natCast_ediv, h, Int.add_mul_ediv_right _ _ (by rw [hB]; decide), Int.ediv_eq_zero_of_lt (by omega) (by rw [hB]; omega)]
  omega
set_option maxRecDepth 100000 in
set_option maxHeartbeats 4000000 in
theorem mul_any (a b : Nat) (ha : a < B) (hb : b < B) (w : World) : Calls Tryz.prog 83 #[num a, num b] w fun e w' =>
    e = .returned (.tuple #[num (a * b), num (a * b / B)]) ∧ Below w.heap.size w w' := by
  have a0 := wd_lo a 0; have a1 := wd_lo a 1; have a2 := wd_lo a 2; have a3 := wd_lo a 3
  have b0 := wd_lo b 0; have b1 := wd_lo b 1; have b2 := wd_lo b 2; have b3 := wd_lo b 3
  have u0 := wd_hi a 0; have u1 := wd_hi a 1; have u2 := wd_hi a 2; have u3 := wd_hi a 3
  have v0 := wd_hi b 0; have v1 := wd_hi b 1; have v2 := wd_hi b 2; have v3 := wd_hi b 3
  have hR := Rep.init w
  go_enter Tryz.func83, Tryz.ntmps83
  go_wp2_with (first | (refine' xAb hR rfl rfl rfl ?_; clear hR; intro blk w hR) | (refine' xAa hR rfl rfl inferInstance ?_; clear hR; intro blk w hR) | (refine' aAq hR rfl rfl rfl inferInstance ?_) | (refine' aBq hR rfl rfl rfl inferInstance ?_) | (refine' aCq hR rfl rfl rfl inferInstance ?_) | (refine' aDq hR rfl rfl rfl inferInstance rfl ?_; clear hR; intro w hR) | (refine' aEq hR rfl rfl rfl inferInstance rfl rfl ?_; clear hR; intro w hR) | fail)
  refine wp_loop_rounds 5 ?_
  rw [rounds_succ]
  go_wp2_with (first | (refine' xAb hR rfl rfl rfl ?_; clear hR; intro blk w hR) | (refine' xAa hR rfl rfl inferInstance ?_; clear hR; intro blk w hR) | (refine' aAq hR rfl rfl rfl inferInstance ?_) | (refine' aBq hR rfl rfl rfl inferInstance ?_) | (refine' aCq hR rfl rfl rfl inferInstance ?_) | (refine' aDq hR rfl rfl rfl inferInstance rfl ?_; clear hR; intro w hR) | (refine' aEq hR rfl rfl rfl inferInstance rfl rfl ?_; clear hR; intro w hR) | fail)
  refine wp_loop_rounds 5 ?_
  rw [rounds_succ]
  go_wp2_with (first | (refine' xAb hR rfl rfl rfl ?_; clear hR; intro blk w hR) | (refine' xAa hR rfl rfl inferInstance ?_; clear hR; intro blk w hR) | (refine' aAq hR rfl rfl rfl inferInstance ?_) | (refine' aBq hR rfl rfl rfl inferInstance ?_) | (refine' aCq hR rfl rfl rfl inferInstance ?_) | (refine' aDq hR rfl rfl rfl inferInstance rfl ?_; clear hR; intro w hR) | (refine' aEq hR rfl rfl rfl inferInstance rfl rfl ?_; clear hR; intro w hR) | (go_at_call 103; refine (xDn _ _ _ _ (by first | exact w_zz | exact ⟨by assumption, by assumption⟩) (by first | exact w_zz | exact ⟨by assumption, by assumption⟩) (by first | exact w_zz | exact ⟨by assumption, by assumption⟩) (by first | exact w_zz | exact ⟨by assumption, by assumption⟩) _).mono ?_; rintro e w ⟨l00, h00, p00, q00, r00, s00, e00, rfl, hb⟩; replace hR := hR.call hb; clear hb))
  rw [rounds_succ]
  go_wp2_with (first | (refine' xAb hR rfl rfl rfl ?_; clear hR; intro blk w hR) | (refine' xAa hR rfl rfl inferInstance ?_; clear hR; intro blk w hR) | (refine' aAq hR rfl rfl rfl inferInstance ?_) | (refine' aBq hR rfl rfl rfl inferInstance ?_) | (refine' aCq hR rfl rfl rfl inferInstance ?_) | (refine' aDq hR rfl rfl rfl inferInstance rfl ?_; clear hR; intro w hR) | (refine' aEq hR rfl rfl rfl inferInstance rfl rfl ?_; clear hR; intro w hR) | (go_at_call 103; refine (xDn _ _ _ _ (by first | exact w_zz | exact ⟨by assumption, by assumption⟩) (by first | exact w_zz | exact ⟨by assumption, by assumption⟩) (by first | exact w_zz | exact ⟨by assumption, by assumption⟩) (by first | exact w_zz | exact ⟨by assumption, by assumption⟩) _).mono ?_; rintro e w ⟨l01, h01, p01, q01, r01, s01, e01, rfl, hb⟩; replace hR := hR.call hb; clear hb))
  rw [rounds_succ]
  go_wp2_with (first | (refine' xAb hR rfl rfl rfl ?_; clear hR; intro blk w hR) | (refine' xAa hR rfl rfl inferInstance ?_; clear hR; intro blk w hR) | (refine' aAq hR rfl rfl rfl inferInstance ?_) | (refine' aBq hR rfl rfl rfl inferInstance ?_) | (refine' aCq hR rfl rfl rfl inferInstance ?_) | (refine' aDq hR rfl rfl rfl inferInstance rfl ?_; clear hR; intro w hR) | (refine' aEq hR rfl rfl rfl inferInstance rfl rfl ?_; clear hR; intro w hR) | (go_at_call 103; refine (xDn _ _ _ _ (by first | exact w_zz | exact ⟨by assumption, by assumption⟩) (by first | exact w_zz | exact ⟨by assumption, by assumption⟩) (by first | exact w_zz | exact ⟨by assumption, by assumption⟩) (by first | exact w_zz | exact ⟨by assumption, by assumption⟩) _).mono ?_; rintro e w ⟨l02, h02, p02, q02, r02, s02, e02, rfl, hb⟩; replace hR := hR.call hb; clear hb))
  rw [rounds_succ]
  go_wp2_with (first | (refine' xAb hR rfl rfl rfl ?_; clear hR; intro blk w hR) | (refine' xAa hR rfl rfl inferInstance ?_; clear hR; intro blk w hR) | (refine' aAq hR rfl rfl rfl inferInstance ?_) | (refine' aBq hR rfl rfl rfl inferInstance ?_) | (refine' aCq hR rfl rfl rfl inferInstance ?_) | (refine' aDq hR rfl rfl rfl inferInstance rfl ?_; clear hR; intro w hR) | (refine' aEq hR rfl rfl rfl inferInstance rfl rfl ?_; clear hR; intro w hR) | (go_at_call 103; refine (xDn _ _ _ _ (by first | exact w_zz | exact ⟨by assumption, by assumption⟩) (by first | exact w_zz | exact ⟨by assumption, by assumption⟩) (by first | exact w_zz | exact ⟨by assumption, by assumption⟩) (by first | exact w_zz | exact ⟨by assumption, by assumption⟩) _).mono ?_; rintro e w ⟨l03, h03, p03, q03, r03, s03, e03, rfl, hb⟩; replace hR := hR.call hb; clear hb))
  rw [rounds_succ]
  go_wp2_with (first | (refine' xAb hR rfl rfl rfl ?_; clear hR; intro blk w hR) | (refine' xAa hR rfl rfl inferInstance ?_; clear hR; intro blk w hR) | (refine' aAq hR rfl rfl rfl inferInstance ?_) | (refine' aBq hR rfl rfl rfl inferInstance ?_) | (refine' aCq hR rfl rfl rfl inferInstance ?_) | (refine' aDq hR rfl rfl rfl inferInstance rfl ?_; clear hR; intro w hR) | (refine' aEq hR rfl rfl rfl inferInstance rfl rfl ?_; clear hR; intro w hR) | fail)
  rw [rounds_succ]
  go_wp2_with (first | (refine' xAb hR rfl rfl rfl ?_; clear hR; intro blk w hR) | (refine' xAa hR rfl rfl inferInstance ?_; clear hR; intro blk w hR) | (refine' aAq hR rfl rfl rfl inferInstance ?_) | (refine' aBq hR rfl rfl rfl inferInstance ?_) | (refine' aCq hR rfl rfl rfl inferInstance ?_) | (refine' aDq hR rfl rfl rfl inferInstance rfl ?_; clear hR; intro w hR) | (refine' aEq hR rfl rfl rfl inferInstance rfl rfl ?_; clear hR; intro w hR) | fail)
  refine wp_loop_rounds 5 ?_
  rw [rounds_succ]
  go_wp2_with (first | (refine' xAb hR rfl rfl rfl ?_; clear hR; intro blk w hR) | (refine' xAa hR rfl rfl inferInstance ?_; clear hR; intro blk w hR) | (refine' aAq hR rfl rfl rfl inferInstance ?_) | (refine' aBq hR rfl rfl rfl inferInstance ?_) | (refine' aCq hR rfl rfl rfl inferInstance ?_) | (refine' aDq hR rfl rfl rfl inferInstance rfl ?_; clear hR; intro w hR) | (refine' aEq hR rfl rfl rfl inferInstance rfl rfl ?_; clear hR; intro w hR) | (go_at_call 103; refine (xDn _ _ _ _ (by first | exact w_zz | exact ⟨by assumption, by assumption⟩) (by first | exact w_zz | exact ⟨by assumption, by assumption⟩) (by first | exact w_zz | exact ⟨by assumption, by assumption⟩) (by first | exact w_zz | exact ⟨by assumption, by assumption⟩) _).mono ?_; rintro e w ⟨l10, h10, p10, q10, r10, s10, e10, rfl, hb⟩; replace hR := hR.call hb; clear hb))
  rw [rounds_succ]
  go_wp2_with (first | (refine' xAb hR rfl rfl rfl ?_; clear hR; intro blk w hR) | (refine' xAa hR rfl rfl inferInstance ?_; clear hR; intro blk w hR) | (refine' aAq hR rfl rfl rfl inferInstance ?_) | (refine' aBq hR rfl rfl rfl inferInstance ?_) | (refine' aCq hR rfl rfl rfl inferInstance ?_) | (refine' aDq hR rfl rfl rfl inferInstance rfl ?_; clear hR; intro w hR) | (refine' aEq hR rfl rfl rfl inferInstance rfl rfl ?_; clear hR; intro w hR) | (go_at_call 103; refine (xDn _ _ _ _ (by first | exact w_zz | exact ⟨by assumption, by assumption⟩) (by first | exact w_zz | exact ⟨by assumption, by assumption⟩) (by first | exact w_zz | exact ⟨by assumption, by assumption⟩) (by first | exact w_zz | exact ⟨by assumption, by assumption⟩) _).mono ?_; rintro e w ⟨l11, h11, p11, q11, r11, s11, e11, rfl, hb⟩; replace hR := hR.call hb; clear hb))
  rw [rounds_succ]
  go_wp2_with (first | (refine' xAb hR rfl rfl rfl ?_; clear hR; intro blk w hR) | (refine' xAa hR rfl rfl inferInstance ?_; clear hR; intro blk w hR) | (refine' aAq hR rfl rfl rfl inferInstance ?_) | (refine' aBq hR rfl rfl rfl inferInstance ?_) | (refine' aCq hR rfl rfl rfl inferInstance ?_) | (refine' aDq hR rfl rfl rfl inferInstance rfl ?_; clear hR; intro w hR) | (refine' aEq hR rfl rfl rfl inferInstance rfl rfl ?_; clear hR; intro w hR) | (go_at_call 103; refine (xDn _ _ _ _ (by first | exact w_zz | exact ⟨by assumption, by assumption⟩) (by first | exact w_zz | exact ⟨by assumption, by assumption⟩) (by first | exact w_zz | exact ⟨by assumption, by assumption⟩) (by first | exact w_zz | exact ⟨by assumption, by assumption⟩) _).mono ?_; rintro e w ⟨l12, h12, p12, q12, r12, s12, e12, rfl, hb⟩; replace hR := hR.call hb; clear hb))
  rw [rounds_succ]
  go_wp2_with (first | (refine' xAb hR rfl rfl rfl ?_; clear hR; intro blk w hR) | (refine' xAa hR rfl rfl inferInstance ?_; clear hR; intro blk w hR) | (refine' aAq hR rfl rfl rfl inferInstance ?_) | (refine' aBq hR rfl rfl rfl inferInstance ?_) | (refine' aCq hR rfl rfl rfl inferInstance ?_) | (refine' aDq hR rfl rfl rfl inferInstance rfl ?_; clear hR; intro w hR) | (refine' aEq hR rfl rfl rfl inferInstance rfl rfl ?_; clear hR; intro w hR) | (go_at_call 103; refine (xDn _ _ _ _ (by first | exact w_zz | exact ⟨by assumption, by assumption⟩) (by first | exact w_zz | exact ⟨by assumption, by assumption⟩) (by first | exact w_zz | exact ⟨by assumption, by assumption⟩) (by first | exact w_zz | exact ⟨by assumption, by assumption⟩) _).mono ?_; rintro e w ⟨l13, h13, p13, q13, r13, s13, e13, rfl, hb⟩; replace hR := hR.call hb; clear hb))
  rw [rounds_succ]
  go_wp2_with (first | (refine' xAb hR rfl rfl rfl ?_; clear hR; intro blk w hR) | (refine' xAa hR rfl rfl inferInstance ?_; clear hR; intro blk w hR) | (refine' aAq hR rfl rfl rfl inferInstance ?_) | (refine' aBq hR rfl rfl rfl inferInstance ?_) | (refine' aCq hR rfl rfl rfl inferInstance ?_) | (refine' aDq hR rfl rfl rfl inferInstance rfl ?_; clear hR; intro w hR) | (refine' aEq hR rfl rfl rfl inferInstance rfl rfl ?_; clear hR; intro w hR) | fail)
  rw [rounds_succ]
  go_wp2_with (first | (refine' xAb hR rfl rfl rfl ?_; clear hR; intro blk w hR) | (refine' xAa hR rfl rfl inferInstance ?_; clear hR; intro blk w hR) | (refine' aAq hR rfl rfl rfl inferInstance ?_) | (refine' aBq hR rfl rfl rfl inferInstance ?_) | (refine' aCq hR rfl rfl rfl inferInstance ?_) | (refine' aDq hR rfl rfl rfl inferInstance rfl ?_; clear hR; intro w hR) | (refine' aEq hR rfl rfl rfl inferInstance rfl rfl ?_; clear hR; intro w hR) | fail)
  refine wp_loop_rounds 5 ?_
  rw [rounds_succ]
  go_wp2_with (first | (refine' xAb hR rfl rfl rfl ?_; clear hR; intro blk w hR) | (refine' xAa hR rfl rfl inferInstance ?_; clear hR; intro blk w hR) | (refine' aAq hR rfl rfl rfl inferInstance ?_) | (refine' aBq hR rfl rfl rfl inferInstance ?_) | (refine' aCq hR rfl rfl rfl inferInstance ?_) | (refine' aDq hR rfl rfl rfl inferInstance rfl ?_; clear hR; intro w hR) | (refine' aEq hR rfl rfl rfl inferInstance rfl rfl ?_; clear hR; intro w hR) | (go_at_call 103; refine (xDn _ _ _ _ (by first | exact w_zz | exact ⟨by assumption, by assumption⟩) (by first | exact w_zz | exact ⟨by assumption, by assumption⟩) (by first | exact w_zz | exact ⟨by assumption, by assumption⟩) (by first | exact w_zz | exact ⟨by assumption, by assumption⟩) _).mono ?_; rintro e w ⟨l20, h20, p20, q20, r20, s20, e20, rfl, hb⟩; replace hR := hR.call hb; clear hb))
  rw [rounds_succ]
  go_wp2_with (first | (refine' xAb hR rfl rfl rfl ?_; clear hR; intro blk w hR) | (refine' xAa hR rfl rfl inferInstance ?_; clear hR; intro blk w hR) | (refine' aAq hR rfl rfl rfl inferInstance ?_) | (refine' aBq hR rfl rfl rfl inferInstance ?_) | (refine' aCq hR rfl rfl rfl inferInstance ?_) | (refine' aDq hR rfl rfl rfl inferInstance rfl ?_; clear hR; intro w hR) | (refine' aEq hR rfl rfl rfl inferInstance rfl rfl ?_; clear hR; intro w hR) | (go_at_call 103; refine (xDn _ _ _ _ (by first | exact w_zz | exact ⟨by assumption, by assumption⟩) (by first | exact w_zz | exact ⟨by assumption, by assumption⟩) (by first | exact w_zz | exact ⟨by assumption, by assumption⟩) (by first | exact w_zz | exact ⟨by assumption, by assumption⟩) _).mono ?_; rintro e w ⟨l21, h21, p21, q21, r21, s21, e21, rfl, hb⟩; replace hR := hR.call hb; clear hb))
  rw [rounds_succ]
  go_wp2_with (first | (refine' xAb hR rfl rfl rfl ?_; clear hR; intro blk w hR) | (refine' xAa hR rfl rfl inferInstance ?_; clear hR; intro blk w hR) | (refine' aAq hR rfl rfl rfl inferInstance ?_) | (refine' aBq hR rfl rfl rfl inferInstance ?_) | (refine' aCq hR rfl rfl rfl inferInstance ?_) | (refine' aDq hR rfl rfl rfl inferInstance rfl ?_; clear hR; intro w hR) | (refine' aEq hR rfl rfl rfl inferInstance rfl rfl ?_; clear hR; intro w hR) | (go_at_call 103; refine (xDn _ _ _ _ (by first | exact w_zz | exact ⟨by assumption, by assumption⟩) (by first | exact w_zz | exact ⟨by assumption, by assumption⟩) (by first | exact w_zz | exact ⟨by assumption, by assumption⟩) (by first | exact w_zz | exact ⟨by assumption, by assumption⟩) _).mono ?_; rintro e w ⟨l22, h22, p22, q22, r22, s22, e22, rfl, hb⟩; replace hR := hR.call hb; clear hb))
  rw [rounds_succ]
  go_wp2_with (first | (refine' xAb hR rfl rfl rfl ?_; clear hR; intro blk w hR) | (refine' xAa hR rfl rfl inferInstance ?_; clear hR; intro blk w hR) | (refine' aAq hR rfl rfl rfl inferInstance ?_) | (refine' aBq hR rfl rfl rfl inferInstance ?_) | (refine' aCq hR rfl rfl rfl inferInstance ?_) | (refine' aDq hR rfl rfl rfl inferInstance rfl ?_; clear hR; intro w hR) | (refine' aEq hR rfl rfl rfl inferInstance rfl rfl ?_; clear hR; intro w hR) | (go_at_call 103; refine (xDn _ _ _ _ (by first | exact w_zz | exact ⟨by assumption, by assumption⟩) (by first | exact w_zz | exact ⟨by assumption, by assumption⟩) (by first | exact w_zz | exact ⟨by assumption, by assumption⟩) (by first | exact w_zz | exact ⟨by assumption, by assumption⟩) _).mono ?_; rintro e w ⟨l23, h23, p23, q23, r23, s23, e23, rfl, hb⟩; replace hR := hR.call hb; clear hb))
  rw [rounds_succ]
  go_wp2_with (first | (refine' xAb hR rfl rfl rfl ?_; clear hR; intro blk w hR) | (refine' xAa hR rfl rfl inferInstance ?_; clear hR; intro blk w hR) | (refine' aAq hR rfl rfl rfl inferInstance ?_) | (refine' aBq hR rfl rfl rfl inferInstance ?_) | (refine' aCq hR rfl rfl rfl inferInstance ?_) | (refine' aDq hR rfl rfl rfl inferInstance rfl ?_; clear hR; intro w hR) | (refine' aEq hR rfl rfl rfl inferInstance rfl rfl ?_; clear hR; intro w hR) | fail)
  rw [rounds_succ]
  go_wp2_with (first | (refine' xAb hR rfl rfl rfl ?_; clear hR; intro blk w hR) | (refine' xAa hR rfl rfl inferInstance ?_; clear hR; intro blk w hR) | (refine' aAq hR rfl rfl rfl inferInstance ?_) | (refine' aBq hR rfl rfl rfl inferInstance ?_) | (refine' aCq hR rfl rfl rfl inferInstance ?_) | (refine' aDq hR rfl rfl rfl inferInstance rfl ?_; clear hR; intro w hR) | (refine' aEq hR rfl rfl rfl inferInstance rfl rfl ?_; clear hR; intro w hR) | fail)
  refine wp_loop_rounds 5 ?_
  rw [rounds_succ]
  go_wp2_with (first | (refine' xAb hR rfl rfl rfl ?_; clear hR; intro blk w hR) | (refine' xAa hR rfl rfl inferInstance ?_; clear hR; intro blk w hR) | (refine' aAq hR rfl rfl rfl inferInstance ?_) | (refine' aBq hR rfl rfl rfl inferInstance ?_) | (refine' aCq hR rfl rfl rfl inferInstance ?_) | (refine' aDq hR rfl rfl rfl inferInstance rfl ?_; clear hR; intro w hR) | (refine' aEq hR rfl rfl rfl inferInstance rfl rfl ?_; clear hR; intro w hR) | (go_at_call 103; refine (xDn _ _ _ _ (by first | exact w_zz | exact ⟨by assumption, by assumption⟩) (by first | exact w_zz | exact ⟨by assumption, by assumption⟩) (by first | exact w_zz | exact ⟨by assumption, by assumption⟩) (by first | exact w_zz | exact ⟨by assumption, by assumption⟩) _).mono ?_; rintro e w ⟨l30, h30, p30, q30, r30, s30, e30, rfl, hb⟩; replace hR := hR.call hb; clear hb))
  rw [rounds_succ]
  go_wp2_with (first | (refine' xAb hR rfl rfl rfl ?_; clear hR; intro blk w hR) | (refine' xAa hR rfl rfl inferInstance ?_; clear hR; intro blk w hR) | (refine' aAq hR rfl rfl rfl inferInstance ?_) | (refine' aBq hR rfl rfl rfl inferInstance ?_) | (refine' aCq hR rfl rfl rfl inferInstance ?_) | (refine' aDq hR rfl rfl rfl inferInstance rfl ?_; clear hR; intro w hR) | (refine' aEq hR rfl rfl rfl inferInstance rfl rfl ?_; clear hR; intro w hR) | (go_at_call 103; refine (xDn _ _ _ _ (by first | exact w_zz | exact ⟨by assumption, by assumption⟩) (by first | exact w_zz | exact ⟨by assumption, by assumption⟩) (by first | exact w_zz | exact ⟨by assumption, by assumption⟩) (by first | exact w_zz | exact ⟨by assumption, by assumption⟩) _).mono ?_; rintro e w ⟨l31, h31, p31, q31, r31, s31, e31, rfl, hb⟩; replace hR := hR.call hb; clear hb))
  rw [rounds_succ]
  go_wp2_with (first | (refine' xAb hR rfl rfl rfl ?_; clear hR; intro blk w hR) | (refine' xAa hR rfl rfl inferInstance ?_; clear hR; intro blk w hR) | (refine' aAq hR rfl rfl rfl inferInstance ?_) | (refine' aBq hR rfl rfl rfl inferInstance ?_) | (refine' aCq hR rfl rfl rfl inferInstance ?_) | (refine' aDq hR rfl rfl rfl inferInstance rfl ?_; clear hR; intro w hR) | (refine' aEq hR rfl rfl rfl inferInstance rfl rfl ?_; clear hR; intro w hR) | (go_at_call 103; refine (xDn _ _ _ _ (by first | exact w_zz | exact ⟨by assumption, by assumption⟩) (by first | exact w_zz | exact ⟨by assumption, by assumption⟩) (by first | exact w_zz | exact ⟨by assumption, by assumption⟩) (by first | exact w_zz | exact ⟨by assumption, by assumption⟩) _).mono ?_; rintro e w ⟨l32, h32, p32, q32, r32, s32, e32, rfl, hb⟩; replace hR := hR.call hb; clear hb))
  rw [rounds_succ]
  go_wp2_with (first | (refine' xAb hR rfl rfl rfl ?_; clear hR; intro blk w hR) | (refine' xAa hR rfl rfl inferInstance ?_; clear hR; intro blk w hR) | (refine' aAq hR rfl rfl rfl inferInstance ?_) | (refine' aBq hR rfl rfl rfl inferInstance ?_) | (refine' aCq hR rfl rfl rfl inferInstance ?_) | (refine' aDq hR rfl rfl rfl inferInstance rfl ?_; clear hR; intro w hR) | (refine' aEq hR rfl rfl rfl inferInstance rfl rfl ?_; clear hR; intro w hR) | (go_at_call 103; refine (xDn _ _ _ _ (by first | exact w_zz | exact ⟨by assumption, by assumption⟩) (by first | exact w_zz | exact ⟨by assumption, by assumption⟩) (by first | exact w_zz | exact ⟨by assumption, by assumption⟩) (by first | exact w_zz | exact ⟨by assumption, by assumption⟩) _).mono ?_; rintro e w ⟨l33, h33, p33, q33, r33, s33, e33, rfl, hb⟩; replace hR := hR.call hb; clear hb))
  rw [rounds_succ]
  go_wp2_with (first | (refine' xAb hR rfl rfl rfl ?_; clear hR; intro blk w hR) | (refine' xAa hR rfl rfl inferInstance ?_; clear hR; intro blk w hR) | (refine' aAq hR rfl rfl rfl inferInstance ?_) | (refine' aBq hR rfl rfl rfl inferInstance ?_) | (refine' aCq hR rfl rfl rfl inferInstance ?_) | (refine' aDq hR rfl rfl rfl inferInstance rfl ?_; clear hR; intro w hR) | (refine' aEq hR rfl rfl rfl inferInstance rfl rfl ?_; clear hR; intro w hR) | fail)
  rw [rounds_succ]
  go_wp2_with (first | (refine' xAb hR rfl rfl rfl ?_; clear hR; intro blk w hR) | (refine' xAa hR rfl rfl inferInstance ?_; clear hR; intro blk w hR) | (refine' aAq hR rfl rfl rfl inferInstance ?_) | (refine' aBq hR rfl rfl rfl inferInstance ?_) | (refine' aCq hR rfl rfl rfl inferInstance ?_) | (refine' aDq hR rfl rfl rfl inferInstance rfl ?_; clear hR; intro w hR) | (refine' aEq hR rfl rfl rfl inferInstance rfl rfl ?_; clear hR; intro w hR) | fail)
  have key := mul_core (wd a 0) (wd a 1) (wd a 2) (wd a 3) (wd b 0) (wd b 1) (wd b 2) (wd b 3) _ _ _ _ _ _ _ _ _ _ _ _ _ _ _ _ _ _ _ _ _ _ _ _ _ _ _ _ _ _ _ _ e00 e01 e02 e03 e10 e11 e12 e13 e20 e21 e22 e23 e30 e31 e32 e33
  have hq := mul_fin a b ha hb _ _ _ _ _ _ _ _ ⟨p00, q00⟩ ⟨p10, q10⟩ ⟨p20, q20⟩ ⟨p30, q30⟩ ⟨p31, q31⟩ ⟨p32, q32⟩ ⟨p33, q33⟩ ⟨r33, s33⟩ key
  clear key e00 e01 e02 e03 e10 e11 e12 e13 e20 e21 e22 e23 e30 e31 e32 e33 p00 p01 p02 p03 p10 p11 p12 p13 p20 p21 p22 p23 p30 p31 p32 p33 q00 q01 q02 q03 q10 q11 q12 q13 q20 q21 q22 q23 q30 q31 q32 q33 r00 r01 r02 r03 r10 r11 r12 r13 r20 r21 r22 r23 r30 r31 r32 r33 s00 s01 s02 s03 s10 s11 s12 s13 s20 s21 s22 s23 s30 s31 s32 s33 a0 a1 a2 a3 b0 b1 b2 b3 u0 u1 u2 u3 v0 v1 v2 v3
  refine xAg hR [0, 0, 0, 1, 1, 1, 2, 2] [0] xCt (by kernel_rfl) rfl rfl (fun K hK => ?_)
  clear hR
  repeat ((first | (refine xBj ?_) | (refine' xAs (by decide) rfl (.inl rfl) rfl ?ha ?_) | (refine' xAs (by decide) rfl (.inr rfl) rfl ?ha ?_) | (refine' xAr rfl rfl rfl inferInstance ?hm ?hn ?ha ?_; (case hm => first | with_reducible assumption | repeat (first | exact .head _ | apply mT)); (case hn => first | rfl | simp)) | (refine' xAm rfl rfl rfl inferInstance ?hm ?hv ?hn ?ha ?_; (case hm => first | with_reducible assumption | repeat (first | exact .head _ | apply mT)); (case hv => first | with_reducible assumption | (simp only [kC, kD, kE, kF]; try rfl)); (case hn => first | rfl | simp)) | (refine' xAi rfl rfl rfl inferInstance ?hm ?hv ?ha ?_; (case hm => first | with_reducible assumption | repeat (first | exact .head _ | apply mT)); (case hv => first | rfl | with_reducible assumption)) | (refine' xAn rfl rfl rfl inferInstance ?hm ?hv ?hn ?ha ?_; (case hm => first | with_reducible assumption | repeat (first | exact .head _ | apply mT)); (case hv => first | with_reducible assumption | (simp only [kC, kD, kE, kF]; try rfl)); (case hn => first | rfl | simp)) | (refine' xAj rfl rfl rfl inferInstance ?hm ?hv ?ha ?_; (case hm => first | with_reducible assumption | repeat (first | exact .head _ | apply mT)); (case hv => first | rfl | with_reducible assumption)) | ((first | refine' xAd (by decide) rfl rfl rfl rfl (fun w => ?hq) ?ha ?_ | refine' xBf (by decide) rfl rfl rfl rfl (fun w => ?hq) ?ha ?_ | refine' xAp (by decide) rfl rfl rfl (fun w => ?hq) ?ha ?_ | refine' xAe (by decide) rfl rfl rfl (fun w => ?hq) ?ha ?_ | refine' xAo (by decide) rfl rfl rfl (fun w => ?hq) ?ha ?_ | refine' xBd (by decide) rfl rfl rfl rfl (fun w => ?hq) ?ha ?_ | refine' xBc (by decide) rfl rfl rfl rfl rfl rfl (fun w => ?hq) ?ha ?_ | refine' xBb (by decide) rfl rfl (fun w => ?hq) ?ha ?_ | refine' xAq (by decide) rfl rfl rfl (fun w => ?hq) ?ha ?_ | refine' xBe (by decide) rfl rfl rfl (fun w => ?hq) ?ha ?_); (case hq => go_simp; try rfl)) | (refine' xAh (by decide) rfl rfl rfl ?ha ?_) | (refine' xBl (by decide) rfl rfl rfl rfl ?ha ?_) | (refine' xBk (by decide) rfl ?ha ?_) | fail); try (case ha => simp only [kP, kQ, kA, kB]; try rfl))
  refine xBs (hK _ _ ?_)
  clear hK K
  refine xBx (fun Q hQ => ?_)
  try simp only [List.nil_append, List.cons_append]
  repeat ((first | refine' xBa rfl (.inl rfl) rfl ?hk ?ha ?_ | refine' xBa rfl (.inr rfl) rfl ?hk ?ha ?_ | (refine' xAv rfl rfl rfl inferInstance rfl ?hs rfl rfl ?hn ?hk ?ha ?_; (case hs => repeat (first | exact xAx.head | apply xAx.tail)); (case hn => first | rfl | simp)) | (refine' xAl rfl rfl rfl inferInstance rfl rfl ?hs ?hn ?hl ?hk ?ha ?_; (case hs => repeat (first | exact xAx.head | apply xAx.tail)); (case hn => first | exact oD rfl | (show _ < 4; with_reducible assumption) | (simp; try omega)); (case hl => first | with_reducible assumption | (simp only [nl, kA, kB]; first | done | rfl) | rfl)) | (refine' xAw rfl rfl rfl inferInstance rfl rfl ?hvn ?hs ?hn ?hl ?hk ?ha ?_; (case hvn => first | rfl | simp); (case hs => repeat (first | exact xAx.head | apply xAx.tail)); (case hn => first | exact oD rfl | (show _ < 4; with_reducible assumption) | (simp; try omega)); (case hl => first | with_reducible assumption | (simp only [nl, kA, kB]; first | done | rfl) | rfl)) | (refine' xBm rfl (fun w => ?hq) ?hk ?ha ?_; (case hq => go_simp; try rfl))); (case hk => intro p hp; first | exact absurd hp List.not_mem_nil | (obtain rfl := List.mem_singleton.1 hp; repeat (first | exact List.Mem.head _ | apply mT))); (case ha => simp only [kP, kQ, kA, kB]; try rfl))
  refine xBw (fun w hR => hQ _ _ ?_)
  clear hQ Q
  simp only [Exit.then]
  rename_i K0 k0
  refine k0 _ _ (wp_ret ?_)
  (refine' bodyPost_ret (results_cc Tryz.results83 rfl (hR.loadAll (P := Tryz.prog) (ty := 24) ?hm ?hn) rfl (hR.loadAll (P := Tryz.prog) (ty := 24) ?hm2 ?hn2)) rfl ⟨?_, hR.below⟩; (case hm => first | with_reducible assumption | repeat (first | exact .head _ | apply mT)); (case hn => first | rfl | simp); (case hm2 => first | with_reducible assumption | repeat (first | exact .head _ | apply mT)); (case hn2 => first | rfl | simp))
  show Ending.returned (.tuple #[.agg (List.toArray [_, _, _, _]), .agg (List.toArray [_, _, _, _])]) = _
  rw [hq.1, hq.2]
end Go.Proofs.YtgfoeongjhkdmaaGreat
