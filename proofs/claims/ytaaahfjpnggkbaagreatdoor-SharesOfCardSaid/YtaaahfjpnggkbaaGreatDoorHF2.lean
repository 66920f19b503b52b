import Derived.Test.YtaaahfjpnggkbaaGreatDoorHA2
import Derived.Test.YtaaahfjpnggkbaaGreatDoorHF
import Derived.Test.YtaaahfjpnggkbaaGreatDoorHA
set_option linter.unusedSimpArgs false
set_option linter.unusedVariables false
set_option maxRecDepth 100000
set_option maxHeartbeats 20000000
namespace Go.Proofs.YtaaahfjpnggkbaaGreatDoor
open Go.RowKit
section
noncomputable def mhi : Nat → Nat → Nat := opq fun a b => a * b / 18446744073709551616
noncomputable def mlo : Nat → Nat → Nat := opq fun a b => a * b % 18446744073709551616
theorem mhi_def (a b : Nat) : mhi a b = a * b / 18446744073709551616 := by unfold mhi; rw [xBs]
theorem mlo_def (a b : Nat) : mlo a b = a * b % 18446744073709551616 := by unfold mlo; rw [xBs]
theorem mlo_lt (a b : Nat) : mlo a b < 18446744073709551616 := by rw [mlo_def]; exact Nat.mod_lt _ (by decide)
theorem mhi_lt {a b : Nat} (ha : a < 18446744073709551616) (hb : b < 18446744073709551616) : mhi a b ≤ 18446744073709551614 := by
 rw [mhi_def]
 have : a * b ≤ 18446744073709551615 * 18446744073709551615 := Nat.mul_le_mul (by omega) (by omega)
 omega
theorem mul64_any (a b : Nat) (ha : a < 18446744073709551616) (hb : b < 18446744073709551616) (w : World) : Calls Tryz.prog 232 #[.int .u64 (a : Int), .int .u64 (b : Int)] w fun e w' =>
  e = .returned (.tuple #[.int .u64 (mhi a b : Int), .int .u64 (mlo a b : Int)]) ∧ Below w.heap.size w w' := by rw [mhi_def, mlo_def]; exact Calls.below (Tryz.bits_Mul64 a b ha hb w)
theorem times_low (p s m l h : Int) (s0 : 0 ≤ s ∧ s < 18446744073709551616) (m0 : 0 ≤ m ∧ m < 18446744073709551616) (hp : p = l + 18446744073709551616 * h) (l0 : 0 ≤ l ∧ l < 18446744073709551616) :
  sm (sm l s 0) m 0 = (p + s + m) % 18446744073709551616 := by
 simp only [sm_def]; omega
theorem times_high (p s m l h : Int) (s0 : 0 ≤ s ∧ s < 18446744073709551616) (m0 : 0 ≤ m ∧ m < 18446744073709551616) (hp : p = l + 18446744073709551616 * h) (l0 : 0 ≤ l ∧ l < 18446744073709551616) (h0 : 0 ≤ h ∧ h ≤ 18446744073709551614) (hc : p ≤ 18446744073709551615 * 18446744073709551615) :
  h + ca l s 0 + ca (sm l s 0) m 0 = (p + s + m) / 18446744073709551616 := by
 simp only [sm_def, ca_def]; omega
theorem times_q (a b : Nat) (s m : Int) (ha : a < 18446744073709551616) (hb : b < 18446744073709551616) (hs0 : 0 ≤ s) (hs : s < 18446744073709551616) (hm0 : 0 ≤ m) (hm : m < 18446744073709551616) :
  (mhi a b : Int) + ca (mlo a b : Int) s 0 < 18446744073709551616 ∧ (mhi a b : Int) + ca (mlo a b : Int) s 0 + ca (sm (mlo a b : Int) s 0) m 0 < 18446744073709551616 ∧
  0 ≤ sm (sm (mlo a b : Int) s 0) m 0 ∧ sm (sm (mlo a b : Int) s 0) m 0 < 18446744073709551616 ∧
  sm (sm (mlo a b : Int) s 0) m 0 + 18446744073709551616 * ((mhi a b : Int) + ca (mlo a b : Int) s 0 + ca (sm (mlo a b : Int) s 0) m 0) = (a : Int) * b + s + m := by
 have l0 := mlo_lt a b
 have h0 := mhi_lt ha hb
 have p1 : 0 ≤ (mlo a b : Int) := by omega
 have j1 := ca_hi (mlo a b : Int) s 0 (by omega) (by omega) (by decide)
 have hp : ((a * b : Nat) : Int) = (mlo a b : Int) + 18446744073709551616 * (mhi a b : Int) := by rw [mlo_def, mhi_def]; omega
 have hc : a * b ≤ 18446744073709551615 * 18446744073709551615 := Nat.mul_le_mul (by omega) (by omega)
 have e1 := times_low _ s m _ _ (by omega) (by omega) hp (by omega)
 have e2 := times_high _ s m _ _ (by omega) (by omega) hp (by omega) (by omega) (by omega)
 rw [← Int.natCast_mul]
 rw [e1, e2]
 refine ⟨by omega, by omega, by omega, by omega, by omega⟩
theorem times_any (a b s m : Int) (ha0 : 0 ≤ a) (ha : a < 18446744073709551616) (hb0 : 0 ≤ b) (hb : b < 18446744073709551616) (hs0 : 0 ≤ s) (hs : s < 18446744073709551616) (hm0 : 0 ≤ m) (hm : m < 18446744073709551616) (w : World) :
  Calls Tryz.prog 236 #[.int .u64 a, .int .u64 b, .int .u64 s, .int .u64 m] w fun e w' =>
  ∃ l h : Int, 0 ≤ l ∧ l < 18446744073709551616 ∧ 0 ≤ h ∧ h < 18446744073709551616 ∧ l + 18446744073709551616 * h = a * b + s + m ∧ e = .returned (.tuple #[.int .u64 l, .int .u64 h]) ∧ Below w.heap.size w w' := by
 obtain ⟨a, rfl⟩ := Int.eq_ofNat_of_zero_le ha0
 obtain ⟨b, rfl⟩ := Int.eq_ofNat_of_zero_le hb0
 have hR := Rep.init w
 have l0 := mlo_lt a b
 have h0 := mhi_lt (a := a) (b := b) (by omega) (by omega)
 have p1 : 0 ≤ (mlo a b : Int) := by omega
 have p2 : (mlo a b : Int) < 18446744073709551616 := by omega
 have k1 := ca_lo (mlo a b : Int) s 0 p1 hs0 (by decide)
 have j1 := ca_hi (mlo a b : Int) s 0 p2 (by omega) (by decide)
 have q1 : 0 ≤ sm (mlo a b : Int) s 0 := by rw [sm_def]; omega
 have q2 : sm (mlo a b : Int) s 0 < 18446744073709551616 := by rw [sm_def]; omega
 have k2 := ca_lo (sm (mlo a b : Int) s 0) m 0 q1 hm0 (by decide)
 have j2 := ca_hi (sm (mlo a b : Int) s 0) m 0 q2 (by omega) (by decide)
 obtain ⟨t1, t2, t3, t4, -⟩ := times_q a b s m (by omega) (by omega) hs0 hs hm0 hm
 clear l0 h0
 go_enter Tryz.func236, Tryz.ntmps236
 go_wp2_with (first | (go_at_call 232; refine (mul64_any a b (by omega) (by omega) _).mono ?_; rintro e w ⟨rfl, hb⟩; replace hR := hR.call hb; clear hb) | (rw [add64']; (case hx => omega); (case hy => omega); (try (case hy' => omega)); (case hc0 => omega); (case hc => omega)))
 go_ret2
 exact ⟨_, _, t3, t4, by omega, t2, (times_q a b s m (by omega) (by omega) hs0 hs hm0 hm).2.2.2.2, rfl, hR.below⟩
theorem w_zz : (0 : Int) ≤ 0 ∧ (0 : Int) < 18446744073709551616 := ⟨Int.le_refl 0, by decide⟩
theorem xDn (a b s m : Int) (ha : 0 ≤ a ∧ a < 18446744073709551616) (hb : 0 ≤ b ∧ b < 18446744073709551616) (hs : 0 ≤ s ∧ s < 18446744073709551616) (hm : 0 ≤ m ∧ m < 18446744073709551616) (w : World) :
  Calls Tryz.prog 236 #[.int .u64 a, .int .u64 b, .int .u64 s, .int .u64 m] w fun e w' =>
  ∃ l h : Int, 0 ≤ l ∧ l < 18446744073709551616 ∧ 0 ≤ h ∧ h < 18446744073709551616 ∧ l + 18446744073709551616 * h = a * b + s + m ∧ e = .returned (.tuple #[.int .u64 l, .int .u64 h]) ∧ Below w.heap.size w w' :=
 times_any a b s m ha.1 ha.2 hb.1 hb.2 hs.1 hs.2 hm.1 hm.2 w
instance : RowT Tryz.prog 273 8 := .mk' (by kernel_rfl) (by kernel_rfl)
instance : xKf Tryz.prog 273 [.int .u64 0, .int .u64 0, .int .u64 0, .int .u64 0, .int .u64 0, .int .u64 0, .int .u64 0, .int .u64 0] := ⟨.agg #[.int .u64 0, .int .u64 0, .int .u64 0, .int .u64 0, .int .u64 0, .int .u64 0, .int .u64 0, .int .u64 0], by kernel_rfl, rfl⟩
theorem mul_core (x0 x1 x2 x3 y0 y1 y2 y3 l00 l01 l02 l03 l10 l11 l12 l13 l20 l21 l22 l23 l30 l31 l32 l33 h00 h01 h02 h03 h10 h11 h12 h13 h20 h21 h22 h23 h30 h31 h32 h33 : Int)
    (e00 : l00 + 18446744073709551616 * h00 = x0 * y0 + 0 + 0)
    (e01 : l01 + 18446744073709551616 * h01 = x0 * y1 + 0 + h00)
    (e02 : l02 + 18446744073709551616 * h02 = x0 * y2 + 0 + h01)
    (e03 : l03 + 18446744073709551616 * h03 = x0 * y3 + 0 + h02)
    (e10 : l10 + 18446744073709551616 * h10 = x1 * y0 + l01 + 0)
    (e11 : l11 + 18446744073709551616 * h11 = x1 * y1 + l02 + h10)
    (e12 : l12 + 18446744073709551616 * h12 = x1 * y2 + l03 + h11)
    (e13 : l13 + 18446744073709551616 * h13 = x1 * y3 + h03 + h12)
    (e20 : l20 + 18446744073709551616 * h20 = x2 * y0 + l11 + 0)
    (e21 : l21 + 18446744073709551616 * h21 = x2 * y1 + l12 + h20)
    (e22 : l22 + 18446744073709551616 * h22 = x2 * y2 + l13 + h21)
    (e23 : l23 + 18446744073709551616 * h23 = x2 * y3 + h13 + h22)
    (e30 : l30 + 18446744073709551616 * h30 = x3 * y0 + l21 + 0)
    (e31 : l31 + 18446744073709551616 * h31 = x3 * y1 + l22 + h30)
    (e32 : l32 + 18446744073709551616 * h32 = x3 * y2 + l23 + h31)
    (e33 : l33 + 18446744073709551616 * h33 = x3 * y3 + h23 + h32)
    :
    ((x0 + 18446744073709551616 * (x1 + 18446744073709551616 * (x2 + 18446744073709551616 * x3))) * (y0 + 18446744073709551616 * (y1 + 18446744073709551616 * (y2 + 18446744073709551616 * y3)))) =
      (l00 + 18446744073709551616 * (l10 + 18446744073709551616 * (l20 + 18446744073709551616 * l30))) + (l31 + 18446744073709551616 * (l32 + 18446744073709551616 * (l33 + 18446744073709551616 * h33))) * (18446744073709551616 * 18446744073709551616 * 18446744073709551616 * 18446744073709551616) := by
  have d : ((x0 + 18446744073709551616 * (x1 + 18446744073709551616 * (x2 + 18446744073709551616 * x3))) * (y0 + 18446744073709551616 * (y1 + 18446744073709551616 * (y2 + 18446744073709551616 * y3)))) =
     (x0 * y0 + 18446744073709551616 * (x0 * y1 + 18446744073709551616 * (x0 * y2 + 18446744073709551616 * (x0 * y3)))) + 18446744073709551616 * ((x1 * y0 + 18446744073709551616 * (x1 * y1 + 18446744073709551616 * (x1 * y2 + 18446744073709551616 * (x1 * y3)))) +
     18446744073709551616 * ((x2 * y0 + 18446744073709551616 * (x2 * y1 + 18446744073709551616 * (x2 * y2 + 18446744073709551616 * (x2 * y3)))) + 18446744073709551616 * (x3 * y0 + 18446744073709551616 * (x3 * y1 + 18446744073709551616 * (x3 * y2 + 18446744073709551616 * (x3 * y3)))))) := by grind
  rw [d]
  generalize x0 * y0 = p00 at e00 ⊢
  generalize x0 * y1 = p01 at e01 ⊢
  generalize x0 * y2 = p02 at e02 ⊢
  generalize x0 * y3 = p03 at e03 ⊢
  generalize x1 * y0 = p10 at e10 ⊢
  generalize x1 * y1 = p11 at e11 ⊢
  generalize x1 * y2 = p12 at e12 ⊢
  generalize x1 * y3 = p13 at e13 ⊢
  generalize x2 * y0 = p20 at e20 ⊢
  generalize x2 * y1 = p21 at e21 ⊢
  generalize x2 * y2 = p22 at e22 ⊢
  generalize x2 * y3 = p23 at e23 ⊢
  generalize x3 * y0 = p30 at e30 ⊢
  generalize x3 * y1 = p31 at e31 ⊢
  generalize x3 * y2 = p32 at e32 ⊢
  generalize x3 * y3 = p33 at e33 ⊢
  clear d
  omega
theorem mul_fin (a b : Nat) (ha : a < B) (hb : b < B) (r0 r1 r2 r3 r4 r5 r6 r7 : Int) (h0 : 0 ≤ r0 ∧ r0 < 18446744073709551616) (h1 : 0 ≤ r1 ∧ r1 < 18446744073709551616) (h2 : 0 ≤ r2 ∧ r2 < 18446744073709551616) (h3 : 0 ≤ r3 ∧ r3 < 18446744073709551616)
  (h4 : 0 ≤ r4 ∧ r4 < 18446744073709551616) (h5 : 0 ≤ r5 ∧ r5 < 18446744073709551616) (h6 : 0 ≤ r6 ∧ r6 < 18446744073709551616) (h7 : 0 ≤ r7 ∧ r7 < 18446744073709551616)
  (h : ((wd a 0 + 18446744073709551616 * (wd a 1 + 18446744073709551616 * (wd a 2 + 18446744073709551616 * wd a 3))) * (wd b 0 + 18446744073709551616 * (wd b 1 + 18446744073709551616 * (wd b 2 + 18446744073709551616 * wd b 3)))) =
   (r0 + 18446744073709551616 * (r1 + 18446744073709551616 * (r2 + 18446744073709551616 * r3))) + (r4 + 18446744073709551616 * (r5 + 18446744073709551616 * (r6 + 18446744073709551616 * r7))) * (18446744073709551616 * 18446744073709551616 * 18446744073709551616 * 18446744073709551616)) :
  [Value.int .u64 r0, .int .u64 r1, .int .u64 r2, .int .u64 r3] = nl (a * b) ∧ [Value.int .u64 r4, .int .u64 r5, .int .u64 r6, .int .u64 r7] = nl (a * b / B) := by
 rw [← four a ha, ← four b hb, ← Int.natCast_mul] at h
 have hB : (B : Int) = 18446744073709551616 * 18446744073709551616 * 18446744073709551616 * 18446744073709551616 := by rw [B_eq]; rfl
 rw [← hB] at h
 refine ⟨nl_eq _ _ _ _ _ h0 h1 h2 h3 (r4 + 18446744073709551616 * (r5 + 18446744073709551616 * (r6 + 18446744073709551616 * r7))) h, nl_eq _ _ _ _ _ h4 h5 h6 h7 0 ?_⟩
 rw [Int.natCast_ediv, h, Int.add_mul_ediv_right _ _ (by rw [hB]; decide), Int.ediv_eq_zero_of_lt (by omega) (by rw [hB]; omega)]
 omega
theorem mul_any (a b : Nat) (ha : a < B) (hb : b < B) (w : World) : Calls Tryz.prog 226 #[num a, num b] w fun e w' =>
  e = .returned (.tuple #[num (a * b), num (a * b / B)]) ∧ Below w.heap.size w w' := by
 have a0 := xDz a 0; have a1 := xDz a 1; have a2 := xDz a 2; have a3 := xDz a 3
 have b0 := xDz b 0; have b1 := xDz b 1; have b2 := xDz b 2; have b3 := xDz b 3
 have u0 := xEk a 0; have u1 := xEk a 1; have u2 := xEk a 2; have u3 := xEk a 3
 have v0 := xEk b 0; have v1 := xEk b 1; have v2 := xEk b 2; have v3 := xEk b 3
 have hR := Rep.init w
 go_enter Tryz.func226, Tryz.ntmps226
 go_wp2_with (first | (refine' aAq hR ?_; clear hR; intro blk w hR) | (refine' aBq hR ?_; clear hR; intro blk w hR) | (refine' aEq hR ?_))
 refine wp_loop_rounds 5 ?_
 rw [rounds_succ]
 go_wp2_with (refine' aEq hR ?_)
 refine wp_loop_rounds 5 ?_
 rw [rounds_succ]
 go_wp2_with (first | (refine' aGq hR ?_) | (refine' aHq hR ?_; clear hR; intro w hR) | (go_at_call 236; refine (xDn _ _ _ _ (by first | exact w_zz | exact ⟨by assumption, by assumption⟩) (by first | exact w_zz | exact ⟨by assumption, by assumption⟩) (by first | exact w_zz | exact ⟨by assumption, by assumption⟩) (by first | exact w_zz | exact ⟨by assumption, by assumption⟩) _).mono ?_; rintro e w ⟨l00, h00, p00, q00, r00, s00, e00, rfl, hb⟩; replace hR := hR.call hb; clear hb))
 rw [rounds_succ]
 go_wp2_with (first | (refine' aGq hR ?_) | (refine' aHq hR ?_; clear hR; intro w hR) | (go_at_call 236; refine (xDn _ _ _ _ (by first | exact w_zz | exact ⟨by assumption, by assumption⟩) (by first | exact w_zz | exact ⟨by assumption, by assumption⟩) (by first | exact w_zz | exact ⟨by assumption, by assumption⟩) (by first | exact w_zz | exact ⟨by assumption, by assumption⟩) _).mono ?_; rintro e w ⟨l01, h01, p01, q01, r01, s01, e01, rfl, hb⟩; replace hR := hR.call hb; clear hb))
 rw [rounds_succ]
 go_wp2_with (first | (refine' aGq hR ?_) | (refine' aHq hR ?_; clear hR; intro w hR) | (go_at_call 236; refine (xDn _ _ _ _ (by first | exact w_zz | exact ⟨by assumption, by assumption⟩) (by first | exact w_zz | exact ⟨by assumption, by assumption⟩) (by first | exact w_zz | exact ⟨by assumption, by assumption⟩) (by first | exact w_zz | exact ⟨by assumption, by assumption⟩) _).mono ?_; rintro e w ⟨l02, h02, p02, q02, r02, s02, e02, rfl, hb⟩; replace hR := hR.call hb; clear hb))
 rw [rounds_succ]
 go_wp2_with (first | (refine' aGq hR ?_) | (refine' aHq hR ?_; clear hR; intro w hR) | (go_at_call 236; refine (xDn _ _ _ _ (by first | exact w_zz | exact ⟨by assumption, by assumption⟩) (by first | exact w_zz | exact ⟨by assumption, by assumption⟩) (by first | exact w_zz | exact ⟨by assumption, by assumption⟩) (by first | exact w_zz | exact ⟨by assumption, by assumption⟩) _).mono ?_; rintro e w ⟨l03, h03, p03, q03, r03, s03, e03, rfl, hb⟩; replace hR := hR.call hb; clear hb))
 rw [rounds_succ]
 go_wp2_with (refine' aHq hR ?_; clear hR; intro w hR)
 rw [rounds_succ]
 go_wp2_with (refine' aEq hR ?_)
 refine wp_loop_rounds 5 ?_
 rw [rounds_succ]
 go_wp2_with (first | (refine' aGq hR ?_) | (refine' aHq hR ?_; clear hR; intro w hR) | (go_at_call 236; refine (xDn _ _ _ _ (by first | exact w_zz | exact ⟨by assumption, by assumption⟩) (by first | exact w_zz | exact ⟨by assumption, by assumption⟩) (by first | exact w_zz | exact ⟨by assumption, by assumption⟩) (by first | exact w_zz | exact ⟨by assumption, by assumption⟩) _).mono ?_; rintro e w ⟨l10, h10, p10, q10, r10, s10, e10, rfl, hb⟩; replace hR := hR.call hb; clear hb))
 rw [rounds_succ]
 go_wp2_with (first | (refine' aGq hR ?_) | (refine' aHq hR ?_; clear hR; intro w hR) | (go_at_call 236; refine (xDn _ _ _ _ (by first | exact w_zz | exact ⟨by assumption, by assumption⟩) (by first | exact w_zz | exact ⟨by assumption, by assumption⟩) (by first | exact w_zz | exact ⟨by assumption, by assumption⟩) (by first | exact w_zz | exact ⟨by assumption, by assumption⟩) _).mono ?_; rintro e w ⟨l11, h11, p11, q11, r11, s11, e11, rfl, hb⟩; replace hR := hR.call hb; clear hb))
 rw [rounds_succ]
 go_wp2_with (first | (refine' aGq hR ?_) | (refine' aHq hR ?_; clear hR; intro w hR) | (go_at_call 236; refine (xDn _ _ _ _ (by first | exact w_zz | exact ⟨by assumption, by assumption⟩) (by first | exact w_zz | exact ⟨by assumption, by assumption⟩) (by first | exact w_zz | exact ⟨by assumption, by assumption⟩) (by first | exact w_zz | exact ⟨by assumption, by assumption⟩) _).mono ?_; rintro e w ⟨l12, h12, p12, q12, r12, s12, e12, rfl, hb⟩; replace hR := hR.call hb; clear hb))
 rw [rounds_succ]
 go_wp2_with (first | (refine' aGq hR ?_) | (refine' aHq hR ?_; clear hR; intro w hR) | (go_at_call 236; refine (xDn _ _ _ _ (by first | exact w_zz | exact ⟨by assumption, by assumption⟩) (by first | exact w_zz | exact ⟨by assumption, by assumption⟩) (by first | exact w_zz | exact ⟨by assumption, by assumption⟩) (by first | exact w_zz | exact ⟨by assumption, by assumption⟩) _).mono ?_; rintro e w ⟨l13, h13, p13, q13, r13, s13, e13, rfl, hb⟩; replace hR := hR.call hb; clear hb))
 rw [rounds_succ]
 go_wp2_with (refine' aHq hR ?_; clear hR; intro w hR)
 rw [rounds_succ]
 go_wp2_with (refine' aEq hR ?_)
 refine wp_loop_rounds 5 ?_
 rw [rounds_succ]
 go_wp2_with (first | (refine' aGq hR ?_) | (refine' aHq hR ?_; clear hR; intro w hR) | (go_at_call 236; refine (xDn _ _ _ _ (by first | exact w_zz | exact ⟨by assumption, by assumption⟩) (by first | exact w_zz | exact ⟨by assumption, by assumption⟩) (by first | exact w_zz | exact ⟨by assumption, by assumption⟩) (by first | exact w_zz | exact ⟨by assumption, by assumption⟩) _).mono ?_; rintro e w ⟨l20, h20, p20, q20, r20, s20, e20, rfl, hb⟩; replace hR := hR.call hb; clear hb))
 rw [rounds_succ]
 go_wp2_with (first | (refine' aGq hR ?_) | (refine' aHq hR ?_; clear hR; intro w hR) | (go_at_call 236; refine (xDn _ _ _ _ (by first | exact w_zz | exact ⟨by assumption, by assumption⟩) (by first | exact w_zz | exact ⟨by assumption, by assumption⟩) (by first | exact w_zz | exact ⟨by assumption, by assumption⟩) (by first | exact w_zz | exact ⟨by assumption, by assumption⟩) _).mono ?_; rintro e w ⟨l21, h21, p21, q21, r21, s21, e21, rfl, hb⟩; replace hR := hR.call hb; clear hb))
 rw [rounds_succ]
 go_wp2_with (first | (refine' aGq hR ?_) | (refine' aHq hR ?_; clear hR; intro w hR) | (go_at_call 236; refine (xDn _ _ _ _ (by first | exact w_zz | exact ⟨by assumption, by assumption⟩) (by first | exact w_zz | exact ⟨by assumption, by assumption⟩) (by first | exact w_zz | exact ⟨by assumption, by assumption⟩) (by first | exact w_zz | exact ⟨by assumption, by assumption⟩) _).mono ?_; rintro e w ⟨l22, h22, p22, q22, r22, s22, e22, rfl, hb⟩; replace hR := hR.call hb; clear hb))
 rw [rounds_succ]
 go_wp2_with (first | (refine' aGq hR ?_) | (refine' aHq hR ?_; clear hR; intro w hR) | (go_at_call 236; refine (xDn _ _ _ _ (by first | exact w_zz | exact ⟨by assumption, by assumption⟩) (by first | exact w_zz | exact ⟨by assumption, by assumption⟩) (by first | exact w_zz | exact ⟨by assumption, by assumption⟩) (by first | exact w_zz | exact ⟨by assumption, by assumption⟩) _).mono ?_; rintro e w ⟨l23, h23, p23, q23, r23, s23, e23, rfl, hb⟩; replace hR := hR.call hb; clear hb))
 rw [rounds_succ]
 go_wp2_with (refine' aHq hR ?_; clear hR; intro w hR)
 rw [rounds_succ]
 go_wp2_with (refine' aEq hR ?_)
 refine wp_loop_rounds 5 ?_
 rw [rounds_succ]
 go_wp2_with (first | (refine' aGq hR ?_) | (refine' aHq hR ?_; clear hR; intro w hR) | (go_at_call 236; refine (xDn _ _ _ _ (by first | exact w_zz | exact ⟨by assumption, by assumption⟩) (by first | exact w_zz | exact ⟨by assumption, by assumption⟩) (by first | exact w_zz | exact ⟨by assumption, by assumption⟩) (by first | exact w_zz | exact ⟨by assumption, by assumption⟩) _).mono ?_; rintro e w ⟨l30, h30, p30, q30, r30, s30, e30, rfl, hb⟩; replace hR := hR.call hb; clear hb))
 rw [rounds_succ]
 go_wp2_with (first | (refine' aGq hR ?_) | (refine' aHq hR ?_; clear hR; intro w hR) | (go_at_call 236; refine (xDn _ _ _ _ (by first | exact w_zz | exact ⟨by assumption, by assumption⟩) (by first | exact w_zz | exact ⟨by assumption, by assumption⟩) (by first | exact w_zz | exact ⟨by assumption, by assumption⟩) (by first | exact w_zz | exact ⟨by assumption, by assumption⟩) _).mono ?_; rintro e w ⟨l31, h31, p31, q31, r31, s31, e31, rfl, hb⟩; replace hR := hR.call hb; clear hb))
 rw [rounds_succ]
 go_wp2_with (first | (refine' aGq hR ?_) | (refine' aHq hR ?_; clear hR; intro w hR) | (go_at_call 236; refine (xDn _ _ _ _ (by first | exact w_zz | exact ⟨by assumption, by assumption⟩) (by first | exact w_zz | exact ⟨by assumption, by assumption⟩) (by first | exact w_zz | exact ⟨by assumption, by assumption⟩) (by first | exact w_zz | exact ⟨by assumption, by assumption⟩) _).mono ?_; rintro e w ⟨l32, h32, p32, q32, r32, s32, e32, rfl, hb⟩; replace hR := hR.call hb; clear hb))
 rw [rounds_succ]
 go_wp2_with (first | (refine' aGq hR ?_) | (refine' aHq hR ?_; clear hR; intro w hR) | (go_at_call 236; refine (xDn _ _ _ _ (by first | exact w_zz | exact ⟨by assumption, by assumption⟩) (by first | exact w_zz | exact ⟨by assumption, by assumption⟩) (by first | exact w_zz | exact ⟨by assumption, by assumption⟩) (by first | exact w_zz | exact ⟨by assumption, by assumption⟩) _).mono ?_; rintro e w ⟨l33, h33, p33, q33, r33, s33, e33, rfl, hb⟩; replace hR := hR.call hb; clear hb))
 rw [rounds_succ]
 go_wp2_with (refine' aHq hR ?_; clear hR; intro w hR)
 rw [rounds_succ]
 go_wp2_with (fail)
 have key := mul_core (wd a 0) (wd a 1) (wd a 2) (wd a 3) (wd b 0) (wd b 1) (wd b 2) (wd b 3) _ _ _ _ _ _ _ _ _ _ _ _ _ _ _ _ _ _ _ _ _ _ _ _ _ _ _ _ _ _ _ _ e00 e01 e02 e03 e10 e11 e12 e13 e20 e21 e22 e23 e30 e31 e32 e33
 have hq := mul_fin a b ha hb _ _ _ _ _ _ _ _ ⟨p00, q00⟩ ⟨p10, q10⟩ ⟨p20, q20⟩ ⟨p30, q30⟩ ⟨p31, q31⟩ ⟨p32, q32⟩ ⟨p33, q33⟩ ⟨r33, s33⟩ key
 clear key e00 e01 e02 e03 e10 e11 e12 e13 e20 e21 e22 e23 e30 e31 e32 e33 p00 p01 p02 p03 p10 p11 p12 p13 p20 p21 p22 p23 p30 p31 p32 p33 q00 q01 q02 q03 q10 q11 q12 q13 q20 q21 q22 q23 q30 q31 q32 q33 r00 r01 r02 r03 r10 r11 r12 r13 r20 r21 r22 r23 r30 r31 r32 r33 s00 s01 s02 s03 s10 s11 s12 s13 s20 s21 s22 s23 s30 s31 s32 s33 a0 a1 a2 a3 b0 b1 b2 b3 u0 u1 u2 u3 v0 v1 v2 v3
 refine xAd hR [0, 0, 0, 1, 1, 1, 2, 2] [0] xBd (by kernel_rfl) rfl rfl (fun K hK => ?_)
 clear hR
 repeat ((first | (refine xAp ?_) | (refine' aLq ?ha ?_) | (refine' aJq ?ha ?_) | ((first | refine' xCq (by decide) rfl rfl rfl rfl rfl rfl (fun w => ?hq) ?ha ?_ | refine' xCn (by decide) rfl rfl rfl (fun w => ?hq) ?ha ?_); (case hq => go_simp; try rfl))); try (case ha => simp only [kP, kQ, kA, kB]; try rfl))
 refine xAo (hK _ _ ?_)
 clear hK K
 refine xAr (fun Q hQ => ?_)
 try simp only [List.nil_append, List.cons_append]
 repeat ((refine' aKq ?hk ?ha ?_); (case hk => intro p hp; first | exact absurd hp List.not_mem_nil | (obtain rfl := List.mem_singleton.1 hp; repeat (first | exact List.Mem.head _ | apply mT))); (case ha => simp only [kP, kQ, kA, kB]; try rfl))
 refine xAs (fun w hR => hQ _ _ ?_)
 clear hQ Q
 simp only [Exit.then]
 rename_i K0 k0
 refine k0 _ _ (wp_ret ?_)
 (refine' bodyPost_ret (xEn Tryz.results226 rfl (hR.loadAll (P := Tryz.prog) (ty := 24) ?hm ?hn) rfl (hR.loadAll (P := Tryz.prog) (ty := 24) ?hm2 ?hn2)) rfl ⟨?_, hR.below⟩; (case hm => first | with_reducible assumption | repeat (first | exact .head _ | apply mT)); (case hn => first | rfl | simp); (case hm2 => first | with_reducible assumption | repeat (first | exact .head _ | apply mT)); (case hn2 => first | rfl | simp))
 show Ending.returned (.tuple #[.agg (List.toArray [_, _, _, _]), .agg (List.toArray [_, _, _, _])]) = _
 rw [hq.1, hq.2]
end
section
theorem d_lit {a b q r : Nat} {e : Int} (ha : a < B) (hb : b < B) (hq : quo0 a b = q) (hr : rem0 a b = r) (he : (if b = 0 then (1 : Int) else 0) = e) (w : World) : Calls Tryz.prog 210 #[num a, num b] w fun e' w' =>
  e' = .returned (.tuple #[num q, num r, .int .i64 e]) ∧ Below w.heap.size w w' := by
 have := div_any a b ha hb w
 rwa [hq, hr, he] at this
theorem w_lit {a b m r : Nat} {e : Int} (ha : a < B) (hb : b < B) (hm : m < B) (hr : widN a b m = r) (he : (if m = 0 then (1 : Int) else 0) = e) (w : World) : Calls Tryz.prog 227 #[num a, num b, num m] w fun e' w' =>
  e' = .returned (.tuple #[num r, .int .i64 e]) ∧ Below w.heap.size w w' := by
 have := wide_any a b m ha hb hm w
 rwa [hr, he] at this
theorem c_lit {a b r : Nat} (ha : a < B) (hb : b < B) (hr : gcdN a b = r) (w : World) : Calls Tryz.prog 209 #[num a, num b] w fun e' w' =>
  e' = .returned (num r) ∧ Below w.heap.size w w' := by
 have := common_any a b ha hb w
 rwa [hr] at this
end
section
attribute [local irreducible] Calls
theorem m_lit {a b l h : Nat} (ha : a < B) (hb : b < B) (hl : a * b % B = l) (hh : a * b / B = h) (w : World) : Calls Tryz.prog 226 #[num a, num b] w fun e w' =>
  e = .returned (.tuple #[num l, num h]) ∧ Below w.heap.size w w' := by
 have := mul_any a b ha hb w
 rw [hh, ← xHj (a * b), hl] at this
 exact this
theorem a_lit {a b s : Nat} {c : Int} (ha : a < B) (hb : b < B) (hs : (a + b) % B = s) (hc : (((a + b) / B : Nat) : Int) = c) (w : World) : Calls Tryz.prog 203 #[num a, num b] w fun e w' =>
  e = .returned (.tuple #[num s, .int .u64 c]) ∧ Below w.heap.size w w' := by
 have := add_any a b ha hb w
 rw [hc, ← xHj (a + b), hs] at this
 exact this
theorem xDg {a b : Nat} {c : Int} (ha : a < B) (hb : b < B) (hc : cmpN a b = c) (w : World) : Calls Tryz.prog 183 #[num a, num b] w fun e w' =>
  e = .returned (.int .i64 c) ∧ Below w.heap.size w w' := by
 have := cmp_any a b ha hb w
 rwa [hc] at this
end
section
section
variable {P : Program} {ops : Array Oper} {B0 : Nat} {w0 : World} {Kp : List (Nat × Obj)} {Q : Exit → Act → World → Prop}
abbrev ptrTo (b : Nat) : Value := .pointer (some ⟨b, 0, none⟩)
structure xGd (P : Program) (o : Oper) (ob : Obj) : Prop where
 guard : o.guard = none
 run : ∀ (a : Act) (w : World), (execOp a.eval o).run P w = .ok (.value (ptrTo w.heap.size)) (w.alloc ob)
theorem xFb {o : Oper} {ty : TypeId} {l : List Value} (hg : o.guard = none) (ho : o.op = .alloc ty) (hz : xKf P ty l) : xGd P o (.cells l.toArray ty) :=
 ⟨hg, fun a w => by
  obtain ⟨z, h1, h2⟩ := hz.is
  have hzv : (zeroValue ty).run P w = .ok z w := by
   cases hq : P.info? ty with
   | none => simp [hq] at h1
   | some i =>
    have : i.zero = some z := by simpa [hq] using h1
    simp [zeroValue, typeInfo, hq, this]
  have e : (Instr.alloc ty true (.tuple #[])).run P w = .ok (.pointer (some ⟨w.heap.size, 0, none⟩)) (w.alloc (.cells l.toArray ty)) := by
   simp only [Instr.alloc, Sem.run_bind, hzv, Result.andThen_ok, newVar, newRow, h2, newObj]
   rfl
  unfold execOp
  simp only [ho, Sem.run_bind, e, Result.andThen_ok, Sem.run_pure]⟩
def xGe (P : Program) (ops : Array Oper) (B0 : Nat) (w0 : World) (Kp : List (Nat × Obj)) (Q : Exit → Act → World → Prop) : Nat → Array Bool → Act → List (Nat × Obj) → Prop
  | 0, listed, a, L => Region.ready .any ops listed = [] ∧ ∀ w, Rep B0 w0 L w → Q .normal a w
  | f + 1, listed, a, L => (Region.ready .any ops listed = [] → ∀ w, Rep B0 w0 L w → Q .normal a w) ∧ ∀ i ∈ Region.ready .any ops listed, ∃ o, ops[i]? = some o ∧
      ((∃ ob, xGd P o ob ∧ ∀ b, xGe P ops B0 w0 Kp Q f (listed.setIfInBounds i true) (a.put o.dst (ptrTo b)) ((b, ob) :: L)) ∨
       (∃ v L', xBa P ops o v a (Rep B0 w0 L) (Rep B0 w0 L') ∧ (∀ p, p ∈ Kp → p ∈ L') ∧ xGe P ops B0 w0 Kp Q f (listed.setIfInBounds i true) (a.put o.dst v) L'))
theorem xFj : ∀ (f : Nat) (listed : Array Bool) (a : Act) (L : List (Nat × Obj)) (w : World), Rep B0 w0 L w → xGe P ops B0 w0 Kp Q f listed a L → wpAny P .any ops Q f listed a w
  | 0, _, _, _, w, hw, h => ⟨h.1, h.2 w hw⟩
  | f + 1, listed, a, L, w, hw, h => ⟨fun h0 => h.1 h0 w hw, fun i hi => by
      obtain ⟨o, ho, ⟨ob, hal, hn⟩ | ⟨v, L', hy, hk, hn⟩⟩ := h.2 i hi
      · unfold Go.wpOp
        simp only [ho]
        rw [if_pos (by simp [Region.wanted, hal.guard])]
        refine .inl ?_
        unfold Oper.wp
        rw [hal.run]
        simp only [Oper.upon]
        exact xFj f _ _ _ _ (hw.alloc ob) (hn _)
      · exact hy.wpOp ho hw fun w' hw' => xFj f _ _ _ w' hw' hn⟩
theorem headI_first {i : Nat} {oi : Oper} {v : Value} (hi : ops[i]? = some oi) (hs : ∀ (j : Nat) (o : Oper) cs b, ops[j]? = some o → o.op ≠ .select cs b) : ∀ (fuel : Nat) (listed : Array Bool) (a : Act) (L : List (Nat × Obj)),
   (∀ j oj, ops[j]? = some oj → j ≠ i → listed.getD j true = false → (∀ e ∈ oj.after, Region.binds .any e = true → e.on ≠ i) → oi.apart ops oj = true) →
   i ∈ Region.ready .any ops listed → (∀ L', (∀ p, p ∈ Kp → p ∈ L') → xBa P ops oi v a (Rep B0 w0 L') (Rep B0 w0 L')) → (∀ p, p ∈ Kp → p ∈ L) →
   xGe P ops B0 w0 Kp Q fuel (listed.setIfInBounds i true) (a.put oi.dst v) L → xGe P ops B0 w0 Kp Q (fuel + 1) listed a L := by
 intro fuel
 induction fuel with
 | zero =>
  intro listed a L _ hr hy hL H
  refine ⟨fun h0 => (by rw [h0] at hr; cases hr), fun j hj => ?_⟩
  by_cases hji : j = i
  ·subst hji
   exact ⟨oi, hi, .inr ⟨v, L, hy L hL, hL, H⟩⟩
  ·have := ready_mono hj hji
   rw [H.1] at this
   cases this
 | succ fuel ih =>
  intro listed a L hfree hr hy hL H
  refine ⟨fun h0 => (by rw [h0] at hr; cases hr), fun j hj => ?_⟩
  by_cases hji : j = i
  ·subst hji
   exact ⟨oi, hi, .inr ⟨v, L, hy L hL, hL, H⟩⟩
  ·obtain ⟨oj, hoj, hH⟩ := H.2 j (ready_mono hj hji)
   obtain ⟨hjun, oj', hoj', hall⟩ := mem_ready.1 hj
   obtain rfl : oj = oj' := Option.some.inj (hoj.symm.trans hoj')
   have hnot : ∀ e ∈ oj.after, Region.binds .any e = true → e.on ≠ i := fun e he hb heq => by
    have h1 := hall e he hb
    have h0 := (mem_ready.1 hr).1
    rw [heq] at h1
    rcases Nat.lt_or_ge i listed.size with h' | h'
    ·simp [h'] at h0 h1; rw [h0] at h1; cases h1
    ·simp [Array.getElem?_eq_none h'] at h1
   obtain ⟨p1, p2, p3⟩ := Oper.apart_spec (hfree j oj hoj hji hjun hnot)
   have next : ∀ u L', (∀ p, p ∈ Kp → p ∈ L') → xGe P ops B0 w0 Kp Q fuel ((listed.setIfInBounds i true).setIfInBounds j true) ((a.put oi.dst v).put oj.dst u) L' → xGe P ops B0 w0 Kp Q (fuel + 1) (listed.setIfInBounds j true) (a.put oj.dst u) L' := fun u L' hL' Hj => by
    refine ih (listed.setIfInBounds j true) (a.put oj.dst u) L' (fun k ok hk hki hun hno => ?_) (ready_mono hr (Ne.symm hji)) (fun L'' hL'' => (xBa.of_put (fun cs b => hs i oi cs b hi) p3).2 (hy L'' hL'')) hL' ?_
    ·refine hfree k ok hk hki ?_ hno
     by_cases hjk : j = k
     ·subst hjk; exact hjun
     ·rw [getD_set_ne true hjk] at hun; exact hun
    ·rw [Array.setIfInBounds_comm _ _ hji, ← Act.put_comm a v u p2]
     exact Hj
   rcases hH with ⟨ob, hal, hn⟩ | ⟨u, L', hyj, hk, hn⟩
   ·exact ⟨oj, hoj, .inl ⟨ob, hal, fun b => next _ _ (fun p hp => .tail _ (hL p hp)) (hn b)⟩⟩
   ·exact ⟨oj, hoj, .inr ⟨u, L', (xBa.of_put (fun cs b => hs j oj cs b hoj) p1).1 hyj, hk, next _ _ hk hn⟩⟩
theorem xHy (hsel : Region.noSelect ops = true) {L : List (Nat × Obj)} {K : Act → Prop} {n : Nat} (hL : ∀ p, p ∈ Kp → p ∈ L) : ∀ (ord : List (Nat × Bool)) (listed : Array Bool) (a : Act), (∀ p ∈ ord, p.2 = true) → ordB ops (ord.map (·.1)) listed = true → headW P ops (xDa B0 w0 Kp) (Rep B0 w0 L) K ord a →
    (∀ a', K a' → xGe P ops B0 w0 Kp Q n (xCp (ord.map (·.1)) listed) a' L) → xGe P ops B0 w0 Kp Q (ord.length + n) listed a L
  | [], listed, a, _, _, h, hn => by rw [List.length_nil, Nat.zero_add]; exact hn a h
  | p :: r, listed, a, hf, hB, h, hn => by
    obtain ⟨i, b⟩ := p
    obtain rfl : b = true := hf (i, b) (.head _)
    simp only [List.map_cons, ordB, Bool.and_eq_true] at hB
    obtain ⟨⟨hr, hfr⟩, hB'⟩ := hB
    obtain ⟨o, v, ho, hy, _, hK⟩ := h
    have hr' : i ∈ Region.ready .any ops listed := by simpa using hr
    rw [List.length_cons, show r.length + 1 + n = (r.length + n) + 1 by omega]
    exact headI_first ho (Region.noSelect_spec hsel) (r.length + n) listed a L (Region.free_spec ho hfr) hr' (fun L' hL' => hy rfl _ ⟨L', rfl, hL'⟩) hL
      (xHy hsel hL r _ _ (fun q hq => hf q (.tail _ hq)) hB' hK hn)
theorem tailI : ∀ (r : List Nat) (listed : Array Bool) (a : Act) (L : List (Nat × Obj)), (∀ t ∈ r, t < ops.size) → seqB ops r listed = true → xFe P ops (xDa B0 w0 Kp) Q (r.filterMap (ops[·]?)) (Rep B0 w0 L) a → xGe P ops B0 w0 Kp Q r.length listed a L
  | [], listed, a, L, _, hB, h => ⟨by simpa [seqB] using hB, h⟩
  | t :: r, listed, a, L, hlt, hB, h => by
    obtain ⟨o, ho⟩ : ∃ o, ops[t]? = some o := ⟨_, Array.getElem?_eq_getElem (hlt t (.head _))⟩
    rw [List.filterMap_cons_some ho] at h
    obtain ⟨v, C', hy, ⟨L', rfl, hL'⟩, hr⟩ := h
    simp only [seqB, Bool.and_eq_true, decide_eq_true_eq] at hB
    rw [List.length_cons]
    refine ⟨fun h0 => (by rw [h0] at hB; cases hB.1), fun i hi => ?_⟩
    rw [hB.1] at hi
    obtain rfl : i = t := by simpa using hi
    exact ⟨o, ho, .inr ⟨v, L', hy, hL', tailI r _ _ L' (fun s hs => hlt s (.tail _ hs)) hB.2 hr⟩⟩
theorem Rep.swap {p q : Nat × Obj} {L : List (Nat × Obj)} : Rep B0 w0 (p :: q :: L) = Rep B0 w0 (q :: p :: L) := by
 have one : ∀ (p q : Nat × Obj) w, Rep B0 w0 (p :: q :: L) w → Rep B0 w0 (q :: p :: L) w := fun p q w h =>
  ⟨h.below, h.le, fun r hr => h.own r (by
   rcases List.mem_cons.1 hr with rfl | hr
   ·exact .tail _ (.head _)
   ·rcases List.mem_cons.1 hr with rfl | hr
    ·exact .head _
    ·exact .tail _ (.tail _ hr)), by
   have := h.uniq
   simp only [List.map_cons, List.nodup_cons, List.mem_cons, not_or] at this ⊢
   exact ⟨⟨fun e => this.1.1 e.symm, this.2.1⟩, this.1.2, this.2.2⟩⟩
 funext w
 exact propext ⟨one p q w, one q p w⟩
def alloc1OK (ops : Array Oper) (ord : List (Nat × Bool)) (i : Nat) (r : List Nat) : Bool :=
 let x := xCp (ord.map (·.1)) (Array.replicate ops.size false)
 Region.noSelect ops && ordB ops (ord.map (·.1)) (Array.replicate ops.size false) && ord.all (·.2) && decide (Region.ready .any ops x = [i]) && seqB ops r (x.setIfInBounds i true) && r.all (fun t => decide (t < ops.size))
def alloc2OK (ops : Array Oper) (ord : List (Nat × Bool)) (i j : Nat) (r : List Nat) : Bool :=
 let x := xCp (ord.map (·.1)) (Array.replicate ops.size false)
 Region.noSelect ops && ordB ops (ord.map (·.1)) (Array.replicate ops.size false) && ord.all (·.2) && decide (Region.ready .any ops x = [i, j]) && decide (Region.ready .any ops (x.setIfInBounds i true) = [j]) && decide (Region.ready .any ops (x.setIfInBounds j true) = [i]) &&
  seqB ops r ((x.setIfInBounds i true).setIfInBounds j true) && decide (i ≠ j) && r.all (fun t => decide (t < ops.size))
theorem xCg {id : Nat} {w : World} {l : List Oper} {L : List (Nat × Obj)} {a : Act} (hR : Rep B0 w0 L w) (ts : List Nat) (i : Nat) (di : Tmp) (oi : Oper) (zi : Obj) (r : List Nat) (hm : P.follows .mixedOrders = true) (hB : alloc1OK l.toArray (xBi 0 ts) i r = true) (htl : xCt 0 ts = i :: r)
  (hlen : ts.length = l.length) (hlen2 : (xBi 0 ts).length + (r.length + 1) = l.length) (hoi : l.toArray[i]? = some oi) (hdi : oi.dst = some di) (hai : xGd P oi zi)
  (h : ∀ K : List Oper → Act → Prop, (∀ r' a', (∀ b1, xFe P l.toArray (xDa B0 w0 L) Q r' (Rep B0 w0 ((b1, zi) :: L)) (a'.put (some di) (ptrTo b1))) → K (oi :: r') a') → xBn P l.toArray (xDa B0 w0 L) (Rep B0 w0 L) K ts l [] a) : (Code.region id l.toArray true).wp P Q a w := by
 rw [← hdi] at h
 simp only [alloc1OK, Bool.and_eq_true, decide_eq_true_eq] at hB
 obtain ⟨⟨⟨⟨⟨h1, h2⟩, h3⟩, h4⟩, h5⟩, h6⟩ := hB
 refine wp_region_any hm ?_
 have hlt : ∀ t ∈ r, t < l.toArray.size := fun t ht => by simpa using List.all_eq_true.1 h6 t ht
 have hH := h (fun tl a' => ∃ r', tl = oi :: r' ∧ ∀ b1, xFe P l.toArray (xDa B0 w0 L) Q r' (Rep B0 w0 ((b1, zi) :: L)) (a'.put oi.dst (ptrTo b1))) (fun r' a' h' => ⟨r', rfl, h'⟩)
 have hW := xCu (P := P) (ops := l.toArray) (I := xDa B0 w0 L) (C := Rep B0 w0 L) (K := fun a' => ∀ b1, xFe P l.toArray (xDa B0 w0 L) Q (r.filterMap (l.toArray[·]?)) (Rep B0 w0 ((b1, zi) :: L)) (a'.put oi.dst (ptrTo b1))) ts l [] 0 a hlen (fun j => by simp) (fun a' ha' => by
  obtain ⟨r', e, h'⟩ := ha'
  rw [htl, List.nil_append, List.filterMap_cons_some hoi] at e
  obtain rfl := (List.cons.inj e).2
  exact h') hH
 have key := xHy (Q := Q) (n := r.length + 1) h1 (fun p hp => hp) (xBi 0 ts) (Array.replicate l.toArray.size false) a (fun p hp => by simpa using List.all_eq_true.1 h3 p hp) h2 hW (fun a' ha' => by
  refine ⟨fun h0 => (by rw [h0] at h4; cases h4), fun k hk => ?_⟩
  rw [h4] at hk
  obtain rfl : k = i := by simpa using hk
  exact ⟨oi, hoi, .inl ⟨zi, hai, fun b => tailI r _ _ _ hlt h5 (ha' b)⟩⟩)
 have := xFj _ _ _ _ _ hR.drew key
 rw [hlen2] at this
 simpa using this
theorem xEa {id : Nat} {w : World} {l : List Oper} {L : List (Nat × Obj)} {a : Act} (hR : Rep B0 w0 L w) (ts : List Nat) (i j : Nat) (di dj : Tmp) (oi oj : Oper) (zi zj : Obj) (r : List Nat) (hm : P.follows .mixedOrders = true) (hB : alloc2OK l.toArray (xBi 0 ts) i j r = true) (htl : xCt 0 ts = i :: j :: r)
  (hlen : ts.length = l.length) (hlen2 : (xBi 0 ts).length + (r.length + 1 + 1) = l.length) (hoi : l.toArray[i]? = some oi) (hoj : l.toArray[j]? = some oj) (hdi : oi.dst = some di) (hdj : oj.dst = some dj) (hd : di ≠ dj) (hai : xGd P oi zi) (haj : xGd P oj zj)
  (h : ∀ K : List Oper → Act → Prop, (∀ r' a', (∀ b1 b2, xFe P l.toArray (xDa B0 w0 L) Q r' (Rep B0 w0 ((b2, zj) :: (b1, zi) :: L)) ((a'.put (some di) (ptrTo b1)).put (some dj) (ptrTo b2))) → K (oi :: oj :: r') a') → xBn P l.toArray (xDa B0 w0 L) (Rep B0 w0 L) K ts l [] a) : (Code.region id l.toArray true).wp P Q a w := by
 rw [← hdi, ← hdj] at h
 replace hd : ∀ d, oi.dst = some d → oj.dst ≠ some d := fun d h1 h2 => hd (by rw [hdi] at h1; rw [hdj] at h2; rw [Option.some.inj h1, Option.some.inj h2])
 simp only [alloc2OK, Bool.and_eq_true, decide_eq_true_eq] at hB
 obtain ⟨⟨⟨⟨⟨⟨⟨⟨h1, h2⟩, h3⟩, h4⟩, h5⟩, h6⟩, h7⟩, h8⟩, h9⟩ := hB
 refine wp_region_any hm ?_
 have hlt : ∀ t ∈ r, t < l.toArray.size := fun t ht => by simpa using List.all_eq_true.1 h9 t ht
 have hH := h (fun tl a' => ∃ r', tl = oi :: oj :: r' ∧ ∀ b1 b2, xFe P l.toArray (xDa B0 w0 L) Q r' (Rep B0 w0 ((b2, zj) :: (b1, zi) :: L)) ((a'.put oi.dst (ptrTo b1)).put oj.dst (ptrTo b2))) (fun r' a' h' => ⟨r', rfl, h'⟩)
 have hW := xCu (P := P) (ops := l.toArray) (I := xDa B0 w0 L) (C := Rep B0 w0 L) (K := fun a' => ∀ b1 b2, xFe P l.toArray (xDa B0 w0 L) Q (r.filterMap (l.toArray[·]?)) (Rep B0 w0 ((b2, zj) :: (b1, zi) :: L)) ((a'.put oi.dst (ptrTo b1)).put oj.dst (ptrTo b2))) ts l [] 0 a hlen (fun j => by simp) (fun a' ha' => by
  obtain ⟨r', e, h'⟩ := ha'
  rw [htl, List.nil_append, List.filterMap_cons_some hoi, List.filterMap_cons_some hoj] at e
  obtain rfl := (List.cons.inj (List.cons.inj e).2).2
  exact h') hH
 have key := xHy (Q := Q) (n := r.length + 1 + 1) h1 (fun p hp => hp) (xBi 0 ts) (Array.replicate l.toArray.size false) a (fun p hp => by simpa using List.all_eq_true.1 h3 p hp) h2 hW (fun a' ha' => by
  refine ⟨fun h0 => (by rw [h0] at h4; cases h4), fun k hk => ?_⟩
  rw [h4] at hk
  have hk' : k = i ∨ k = j := by simpa using hk
  rcases hk' with rfl | rfl
  ·refine ⟨oi, hoi, .inl ⟨zi, hai, fun b1 => ⟨fun h0 => (by rw [h0] at h5; cases h5), fun m hm' => ?_⟩⟩⟩
   rw [h5] at hm'
   obtain rfl : m = j := by simpa using hm'
   exact ⟨oj, hoj, .inl ⟨zj, haj, fun b2 => tailI r _ _ _ hlt h7 (ha' b1 b2)⟩⟩
  ·refine ⟨oj, hoj, .inl ⟨zj, haj, fun b2 => ⟨fun h0 => (by rw [h0] at h6; cases h6), fun m hm' => ?_⟩⟩⟩
   rw [h6] at hm'
   obtain rfl : m = i := by simpa using hm'
   refine ⟨oi, hoi, .inl ⟨zi, hai, fun b1 => tailI r _ _ _ hlt ?_ ?_⟩⟩
   ·rw [Array.setIfInBounds_comm _ _ (Ne.symm h8)]; exact h7
   ·rw [Rep.swap, ← Act.put_comm a' _ _ hd]; exact ha' b1 b2)
 have := xFj _ _ _ _ _ hR.drew key
 rw [hlen2] at this
 simpa using this
end
section
variable {P : Program} {ops : Array Oper} {B0 : Nat} {w0 : World} {ts : List Nat} {r acc : List Oper} {o : Oper} {a : Act} {K : List Oper → Act → Prop} {C : World → Prop} {Kp : List (Nat × Obj)}
theorem xBk (hw : Region.wanted o (yielded ops a.tmps) = true) {f : FuncId} {xs : List Operand} {us : Array TypeId} (hop : o.op = .call { callee := .value (.func f), args := xs.toArray, argTypes := us }) {vs : List Value} {v : Value} (hx' : evL a xs = some vs)
  (hent : ∀ w, (callFunc f vs.toArray).run P w = .ok (.enter f vs.toArray) w) (hq : ∀ w, Calls P f vs.toArray w fun e w' => e = .returned v ∧ Below w.heap.size w w')
  {a' : Act} (ha : a.put o.dst v = a') (h : xBn P ops (xDa B0 w0 Kp) C K ts r acc a') : xBn P ops (xDa B0 w0 Kp) C K (1 :: ts) (o :: r) acc a :=
 xJa hw (fun L w hL hR => by
  have e : (execOp a.eval o).run P w = .ok (.enter f vs.toArray) w := by
   have hx := xCy hx'
   unfold execOp
   simp only [hop, resolve, Deferred.ofValue, Act.eval, Sem.run_bind, Sem.run_pure, Result.andThen_ok, hx]
   have := hent w
   simpa [invoke] using this
  rw [e]
  exact (hq w).mono fun e w' ⟨he, hb⟩ => ⟨he, hR.call hb⟩) ha h
theorem xBu (hw : Region.wanted o (yielded ops a.tmps) = true) {ty : TypeId} {x : Operand} (hop : o.op = .load ty x) {n : Nat} {b : Nat} (hx : a.eval x = .pointer (some ⟨b, 0, none⟩)) (hT : RowT P ty n) {l : List Value} {t : TypeId}
  (hm : (b, Obj.cells l.toArray t) ∈ Kp) (hn : l.length = n) {a' : Act} (ha : a.put o.dst (.agg l.toArray) = a') (h : xBn P ops (xDa B0 w0 Kp) C K ts r acc a') : xBn P ops (xDa B0 w0 Kp) C K (1 :: ts) (o :: r) acc a :=
 hd_keepRow hw hop hx hT hm (by simp [← hn]) hn ha h
end
end
section
section
variable {P : Program} {ops : Array Oper} {rest : List Oper} {o : Oper} {a : Act} {w w0 : World} {Q : Exit → Act → World → Prop} {B0 : Nat} {L : List (Nat × Obj)}
theorem xFk (hw : Region.wanted o (yielded ops a.tmps) = true) (h : ∀ K : Act → World → Prop, (∀ a w, wpList P ops Q rest a w → K a w) → o.wp P a w K Q) : wpList P ops Q (o :: rest) a w :=
 wpList_step fun K hK => by simp only [hw, if_true]; exact h K hK
theorem xJh (hR : Rep B0 w0 L w) (hg : Region.wanted o (yielded ops a.tmps) = true) {ty : TypeId} {x : Operand} (ho : o.op = .load ty x) {n : Nat} {b off : Nat} (hx : a.eval x = .pointer (some ⟨b, off, none⟩)) (hT : RowT P ty n) {l vs : List Value} {t : TypeId}
  (hm : (b, Obj.cells l.toArray t) ∈ L) (hv : (l.drop off).take n = vs) (hn : vs.length = n) (h : wpList P ops Q rest (a.put o.dst (.agg vs.toArray)) w) : wpList P ops Q (o :: rest) a w :=
 xFk hg fun _ hK => by
  unfold Oper.wp execOp
  simp only [ho, hx, Instr.loadAt, Instr.sureAddr, Sem.run_bind, Sem.run_pure, Result.andThen_ok, hR.loadRow (P := P) (ty := ty) hm hv hn]
  exact hK _ _ h
theorem wpList_loadAllG (hR : Rep B0 w0 L w) (hg : Region.wanted o (yielded ops a.tmps) = true) {ty : TypeId} {x : Operand} (ho : o.op = .load ty x) {n : Nat} {b : Nat} (hx : a.eval x = .pointer (some ⟨b, 0, none⟩)) (hT : RowT P ty n) {l : List Value} {t : TypeId}
  (hm : (b, Obj.cells l.toArray t) ∈ L) (hn : l.length = n) (h : wpList P ops Q rest (a.put o.dst (.agg l.toArray)) w) : wpList P ops Q (o :: rest) a w :=
 xJh hR hg ho hx hT hm (by simp [← hn]) hn h
theorem wpList_loadCellG (hR : Rep B0 w0 L w) (hg : Region.wanted o (yielded ops a.tmps) = true) {ty : TypeId} {x : Operand} (ho : o.op = .load ty x) {b off : Nat} (hx : a.eval x = .pointer (some ⟨b, off, none⟩)) (hT : xDp P ty) {l : List Value} {v : Value} {t : TypeId}
  (hm : (b, Obj.cells l.toArray t) ∈ L) (hv : l[off]? = some v) (h : wpList P ops Q rest (a.put o.dst v) w) : wpList P ops Q (o :: rest) a w :=
 xFk hg fun _ hK => by
  unfold Oper.wp execOp
  simp only [ho, hx, Instr.loadAt, Instr.sureAddr, Sem.run_bind, Sem.run_pure, Result.andThen_ok, hR.loadCell (P := P) (ty := ty) hm hv]
  exact hK _ _ h
end
section
variable {P : Program} {ops : Array Oper} {rest : List Oper} {o : Oper} {a : Act} {w w0 : World} {Q : Exit → Act → World → Prop} {B0 : Nat} {L L' : List (Nat × Obj)}
theorem aVq {ty : TypeId} {x : Operand} {n : Nat} {b : Nat} {l : List Value} {t : TypeId} (hR : Rep B0 w0 L w) (h : wpList P ops Q rest (a.put o.dst (.agg l.toArray)) w) (hg : Region.wanted o (yielded ops a.tmps) = true := by exact rfl) (ho : o.op = .load ty x := by exact rfl) (hx : a.eval x = .pointer (some ⟨b, 0, none⟩) := by exact rfl) (hT : RowT P ty n := by first | ((exact inferInstance); done) | fail) (hm : (b, Obj.cells l.toArray t) ∈ L := by first | ((first | with_reducible assumption | repeat (first | exact .head _ | with_reducible assumption | apply List.mem_cons_of_mem)); done) | fail) (hn : l.length = n := by first | ((first | rfl | (simp; done)); done) | fail) : wpList P ops Q (o :: rest) a w :=
 wpList_loadAllG hR hg ho hx hT hm hn h
theorem aZq {ty : TypeId} {x : Operand} {b off : Nat} {l : List Value} {v : Value} {t : TypeId} (hR : Rep B0 w0 L w) (h : wpList P ops Q rest (a.put o.dst v) w) (hg : Region.wanted o (yielded ops a.tmps) = true := by exact rfl) (ho : o.op = .load ty x := by exact rfl) (hx : a.eval x = .pointer (some ⟨b, off, none⟩) := by exact rfl) (hT : xDp P ty := by first | ((exact inferInstance); done) | fail) (hm : (b, Obj.cells l.toArray t) ∈ L := by first | ((first | with_reducible assumption | repeat (first | exact .head _ | with_reducible assumption | apply List.mem_cons_of_mem)); done) | fail) (hv : l[off]? = some v := by first | ((first | rfl | with_reducible assumption); done) | fail) : wpList P ops Q (o :: rest) a w :=
 wpList_loadCellG hR hg ho hx hT hm hv h
theorem aBr {ty : TypeId} {x : Operand} {b off : Nat} {l : List Value} {v : Value} {t : TypeId} (hR : Rep B0 w0 L w) (h : wpList P ops Q rest (a.put o.dst v) w) (hg : Region.wanted o (yielded ops a.tmps) = true := by exact rfl) (ho : o.op = .load ty x := by exact rfl) (hx : a.eval x = .pointer (some ⟨b, off, none⟩) := by exact rfl) (hT : xDp P ty := by first | ((exact inferInstance); done) | fail) (hm : (b, Obj.cells l.toArray t) ∈ L := by first | ((first | with_reducible assumption | repeat (first | exact .head _ | apply List.Mem.tail)); done) | fail) (hv : l[off]? = some v := by first | ((first | rfl | with_reducible assumption); done) | fail) : wpList P ops Q (o :: rest) a w :=
 wpList_loadCellG hR hg ho hx hT hm hv h
theorem aCr {ty : TypeId} {x : Operand} {n : Nat} {b : Nat} {l : List Value} {t : TypeId} (hR : Rep B0 w0 L w) (h : wpList P ops Q rest (a.put o.dst (.agg l.toArray)) w) (hg : Region.wanted o (yielded ops a.tmps) = true := by exact rfl) (ho : o.op = .load ty x := by exact rfl) (hx : a.eval x = .pointer (some ⟨b, 0, none⟩) := by exact rfl) (hT : RowT P ty n := by first | ((exact inferInstance); done) | fail) (hm : (b, Obj.cells l.toArray t) ∈ L := by first | ((first | with_reducible assumption | repeat (first | exact .head _ | apply List.Mem.tail)); done) | fail) (hn : l.length = n := by first | ((first | rfl | (simp; done)); done) | fail) : wpList P ops Q (o :: rest) a w :=
 wpList_loadAllG hR hg ho hx hT hm hn h
theorem aDr {ty : TypeId} {x : Operand} {n : Nat} {b off : Nat} {l vs : List Value} {t : TypeId} (hR : Rep B0 w0 L w) (h : wpList P ops Q rest (a.put o.dst (.agg vs.toArray)) w) (hg : Region.wanted o (yielded ops a.tmps) = true := by exact rfl) (ho : o.op = .load ty x := by exact rfl) (hx : a.eval x = .pointer (some ⟨b, off, none⟩) := by exact rfl) (hT : RowT P ty n := by first | ((exact inferInstance); done) | fail) (hm : (b, Obj.cells l.toArray t) ∈ L := by first | ((first | with_reducible assumption | repeat (first | exact .head _ | with_reducible assumption | apply List.mem_cons_of_mem)); done) | fail) (hv : (l.drop off).take n = vs := by first | ((first | with_reducible assumption | (simp only [kC, kD, kE, kF]; first | done | rfl)); done) | fail) (hn : vs.length = n := by first | ((first | rfl | (simp; done)); done) | fail) : wpList P ops Q (o :: rest) a w :=
 xJh hR hg ho hx hT hm hv hn h
end
end
end Go.Proofs.YtaaahfjpnggkbaaGreatDoor
