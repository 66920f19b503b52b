import Derived.Test.YtaaahfjpnggkbaaGreatDoorHA2
import Derived.Test.YtaaahfjpnggkbaaGreatDoorHA
set_option linter.unusedSimpArgs false
set_option linter.unusedVariables false
set_option maxRecDepth 100000
set_option maxHeartbeats 20000000
namespace Go.Proofs.YtaaahfjpnggkbaaGreatDoor
open Go.RowKit
theorem lz_any (a : Nat) (ha : a < 18446744073709551616) (w : World) : Calls Tryz.prog 239 #[.int .u64 (a : Int)] w fun e w' =>
  e = .returned (.int .i64 (64 - (blen a : Int))) ∧ Below w.heap.size w w' := by
 have h := Tryz.bits_LeadingZeros64 (a : Int) w (by omega) (by omega)
 rw [Int.toNat_natCast, bitLen_eq _ ha] at h
 exact Calls.below h
theorem dig_le (v1 v0 u n q r : Int) (hu : q * v1 + r = u) : q * (v1 * 4294967296 + v0) ≤ u * 4294967296 + n ↔ q * v0 ≤ 4294967296 * r + n := by
 rw [Int.mul_add, ← Int.mul_assoc]
 generalize q * v1 = p1 at *
 generalize q * v0 = p0 at *
 omega
theorem dig_first (v1 v0 u n : Int) (h1 : 2147483648 ≤ v1) (h0 : 0 ≤ v0) (hu0 : 0 ≤ u) (n1 : n < 4294967296) :
  u * 4294967296 + n < (u / v1 + 1) * (v1 * 4294967296 + v0) := by
 have e := Int.mul_ediv_add_emod u v1
 have l := Int.emod_lt_of_pos u (show 0 < v1 by omega)
 have q0 : 0 ≤ u / v1 := Int.ediv_nonneg hu0 (by omega)
 generalize u / v1 = q at *
 have : 0 ≤ (q + 1) * v0 := Int.mul_nonneg (by omega) h0
 rw [Int.mul_add, ← Int.mul_assoc, Int.add_mul, Int.one_mul, Int.mul_comm q v1]
 omega
theorem dig_top (v1 v0 u : Int) (h1 : 2147483648 ≤ v1) (h0 : v0 < 4294967296) (hu0 : 0 ≤ u) (hu : u < v1 * 4294967296 + v0) : u / v1 ≤ 4294967297 := by
 have : u / v1 < 4294967298 := Int.ediv_lt_of_lt_mul (by omega) (by omega)
 omega
theorem dig_no (Y u n q r v1 v0 : Int) (hY : Y = v1 * 4294967296 + v0) (hu : q * v1 + r = u) (hl : u * 4294967296 + n < (q + 1) * Y) (hY0 : 0 < Y) (hn : ¬ 4294967296 * r + n < q * v0) : (u * 4294967296 + n) / Y = q := by
 subst hY
 have h2 := (dig_le v1 v0 u n q r hu).mpr (by omega)
 generalize v1 * 4294967296 + v0 = Y at *
 rw [Int.ediv_eq_iff_of_pos hY0]
 rw [Int.add_mul, Int.one_mul] at hl
 exact ⟨h2, by omega⟩
theorem dig_yes (Y u n q r v1 v0 : Int) (hY : Y = v1 * 4294967296 + v0) (hu : q * v1 + r = u) (hu1 : u < Y) (hn1 : n < 4294967296) (hY0 : 0 < Y) (hn : 4294967296 ≤ q ∨ 4294967296 * r + n < q * v0) : u * 4294967296 + n < (q - 1 + 1) * Y := by
 rw [show q - 1 + 1 = q by omega]
 by_cases h : 4294967296 ≤ q
 ·have : 4294967296 * Y ≤ q * Y := Int.mul_le_mul_of_nonneg_right h (by omega)
  omega
 ·have h3 : 4294967296 * r + n < q * v0 := by omega
  subst hY
  have h2 := (dig_le v1 v0 u n q r hu)
  generalize q * (v1 * 4294967296 + v0) = z at *
  generalize q * v0 = z0 at *
  omega
theorem dig_great (Y u n q r v1 v0 : Int) (hY : Y = v1 * 4294967296 + v0) (hu : q * v1 + r = u) (hl : u * 4294967296 + n < (q + 1) * Y) (hY0 : 0 < Y) (hv : 0 ≤ v0) (hv1 : v0 < 4294967296) (hq : q ≤ 4294967296) (hn : 0 ≤ n) (hr : 4294967296 ≤ r) : (u * 4294967296 + n) / Y = q := by
 refine dig_no Y u n q r v1 v0 hY hu hl hY0 ?_
 have : q * v0 ≤ 4294967296 * v0 := Int.mul_le_mul_of_nonneg_right hq hv
 omega
def DigCase (Y v1 v0 n q r D : Int) : Prop :=
 (q < 4294967296 ∧ q * v0 ≤ 4294967296 * r + n ∧ Held (q = D)) ∨
 ((4294967296 ≤ q ∨ 4294967296 * r + n < q * v0) ∧ 1 ≤ q ∧ 4294967296 ≤ r + v1 ∧ Held (q - 1 = D)) ∨
 ((4294967296 ≤ q ∨ 4294967296 * r + n < q * v0) ∧ 1 ≤ q ∧ r + v1 < 4294967296 ∧ q - 1 < 4294967296 ∧ 0 ≤ (q - 1) * v0 ∧ (q - 1) * v0 ≤ 4294967296 * (r + v1) + n ∧ Held (q - 1 = D)) ∨
 ((4294967296 ≤ q ∨ 4294967296 * r + n < q * v0) ∧ 1 ≤ q ∧ r + v1 < 4294967296 ∧ (4294967296 ≤ q - 1 ∨ 4294967296 * (r + v1) + n < (q - 1) * v0) ∧ 0 ≤ (q - 1) * v0 ∧ 1 ≤ q - 1 ∧ 4294967296 ≤ r + v1 + v1 ∧ Held (q - 1 - 1 = D))
theorem wrap_z (A n b z : Int) (h : A + n - b = z) (h0 : 0 ≤ z) (h1 : z < 18446744073709551616) : IntKind.u64.wrap (IntKind.u64.wrap (IntKind.u64.wrap A + n) - IntKind.u64.wrap b) = z := by
 simp only [IntKind.wrap_u64]; omega
theorem dig_all (Y v1 v0 u n : Int) (h1 : 2147483648 ≤ v1) (h1' : v1 < 4294967296) (h0 : 0 ≤ v0) (h0' : v0 < 4294967296) (hY : Y = v1 * 4294967296 + v0) (hu0 : 0 ≤ u) (hu : u < Y) (hn0 : 0 ≤ n) (hn : n < 4294967296) :
  ∃ q r D z : Int, u / v1 = q ∧ u - q * v1 = r ∧ 0 ≤ q ∧ q ≤ 4294967297 ∧ 0 ≤ q * v1 ∧ q * v1 < 18446744073709551616 ∧ 0 ≤ r ∧ r < v1 ∧ 0 ≤ q * v0 ∧ q * v0 < 18446744073709551616 ∧ (q - 1) * v0 < 18446744073709551616 ∧ 0 ≤ D ∧ D < 4294967296 ∧ 0 ≤ z ∧ z < Y ∧
   u * 4294967296 + n = D * Y + z ∧ IntKind.u64.wrap (IntKind.u64.wrap (IntKind.u64.wrap (u * 4294967296) + n) - IntKind.u64.wrap (D * Y)) = z ∧ DigCase Y v1 v0 n q r D := by
 have v10 : v1 ≠ 0 := by omega
 have hY0 : 0 < Y := by omega
 obtain ⟨q, eq⟩ : ∃ q, u / v1 = q := ⟨_, rfl⟩
 have q0 : 0 ≤ q := by rw [← eq]; exact Int.ediv_nonneg hu0 (by omega)
 have q1 : q ≤ 4294967297 := by rw [← eq]; exact dig_top v1 v0 u h1 h0' hu0 (by omega)
 have m0 : 0 ≤ q * v1 := Int.mul_nonneg q0 (by omega)
 obtain ⟨r, er⟩ : ∃ r, u - q * v1 = r := ⟨_, rfl⟩
 have hl := dig_first v1 v0 u n h1 h0 hu0 hn
 rw [eq, ← hY] at hl
 have r01 : 0 ≤ r ∧ r < v1 := by
  have e := Int.mul_ediv_add_emod u v1
  have l1 := Int.emod_nonneg u v10
  have l2 := Int.emod_lt_of_pos u (show 0 < v1 by omega)
  rw [eq, Int.mul_comm] at e
  omega
 have p0 : 0 ≤ q * v0 := Int.mul_nonneg q0 h0
 have p1 : q * v0 < 18446744073709551616 := by
  have := Int.mul_le_mul (show q ≤ 4294967297 by omega) (show v0 ≤ 4294967295 by omega) h0 (by omega)
  omega
 have d0 : (q - 1) * v0 = q * v0 - v0 := by rw [Int.sub_mul, Int.one_mul]
 have d1 : (q - 1) * v1 = q * v1 - v1 := by rw [Int.sub_mul, Int.one_mul]
 have d2 : (q - 1 - 1) * v1 = q * v1 - v1 - v1 := by rw [Int.sub_mul, Int.one_mul, d1]
 have e0 : q * v1 + r = u := by omega
 have e1 : (q - 1) * v1 + (r + v1) = u := by omega
 have e2 : (q - 1 - 1) * v1 + (r + v1 + v1) = u := by omega
 have pz : 1 ≤ q ∨ q * v0 = 0 := by
  by_cases h : q = 0
  ·right; rw [h, Int.zero_mul]
  ·left; omega
 have D0 : 0 ≤ (u * 4294967296 + n) / Y := Int.ediv_nonneg (by omega) (by omega)
 have D1 : (u * 4294967296 + n) / Y < 4294967296 := Int.ediv_lt_of_lt_mul hY0 (by omega)
 have key := Int.mul_ediv_add_emod (u * 4294967296 + n) Y
 have z0 := Int.emod_nonneg (u * 4294967296 + n) (show Y ≠ 0 by omega)
 have z1 := Int.emod_lt_of_pos (u * 4294967296 + n) hY0
 refine ⟨q, r, (u * 4294967296 + n) / Y, (u * 4294967296 + n) % Y, eq, er, q0, q1, m0, by omega, r01.1, r01.2, p0, p1, by omega, D0, D1, z0, z1, ?_, ?_, ?_⟩
 ·rw [Int.mul_comm] at key; exact key.symm
 ·refine wrap_z _ _ _ _ ?_ z0 (by omega)
  rw [Int.mul_comm] at key; omega
 ·by_cases T1 : 4294967296 ≤ q ∨ 4294967296 * r + n < q * v0
  ·have hq1 : 1 ≤ q := by omega
   have hl1 := dig_yes Y u n q r v1 v0 hY e0 hu hn hY0 T1
   have g0 : 0 ≤ (q - 1) * v0 := Int.mul_nonneg (by omega) h0
   by_cases B : 4294967296 ≤ r + v1
   ·exact .inr (.inl ⟨T1, hq1, B, ⟨(dig_great Y u n (q - 1) (r + v1) v1 v0 hY e1 hl1 hY0 h0 h0' (by omega) hn0 B).symm⟩⟩)
   ·by_cases T2 : 4294967296 ≤ q - 1 ∨ 4294967296 * (r + v1) + n < (q - 1) * v0
    ·have hl2 := dig_yes Y u n (q - 1) (r + v1) v1 v0 hY e1 hu hn hY0 T2
     have hq2 : 1 ≤ q - 1 := by
      by_cases h : q - 1 = 0
      ·rw [h, Int.zero_mul] at T2; omega
      ·omega
     exact .inr (.inr (.inr ⟨T1, hq1, by omega, T2, g0, hq2, by omega, ⟨(dig_great Y u n (q - 1 - 1) (r + v1 + v1) v1 v0 hY e2 hl2 hY0 h0 h0' (by omega) hn0 (by omega)).symm⟩⟩))
    ·exact .inr (.inr (.inl ⟨T1, hq1, by omega, by omega, g0, by omega, ⟨(dig_no Y u n (q - 1) (r + v1) v1 v0 hY e1 hl1 hY0 (by omega)).symm⟩⟩))
  ·exact .inl ⟨by omega, by omega, ⟨(dig_no Y u n q r v1 v0 hY e0 hl hY0 (by omega)).symm⟩⟩
structure Sh (hi lo y : Nat) (Y v1 v0 u t n1 n0 a b : Int) : Prop where
 eY : IntKind.u64.wrap ((y : Int) * 2 ^ (64 - blen y)) = Y
 ev1 : Y / 4294967296 = v1
 ev0 : bits .and .u64 Y 4294967295 = v0
 ea : IntKind.u64.wrap ((hi : Int) * 2 ^ (64 - blen y)) = a
 eb : (lo : Int) / 2 ^ (64 - (64 - blen y)) = b
 eu : bits .or .u64 a b = u
 et : IntKind.u64.wrap ((lo : Int) * 2 ^ (64 - blen y)) = t
 en1 : t / 4294967296 = n1
 en0 : bits .and .u64 t 4294967295 = n0
theorem and_low (a : Nat) (ha : a < 18446744073709551616) : bits .and .u64 (a : Int) 4294967295 = ((a % 4294967296 : Nat) : Int) := by
 have := bits_and_u64_nat a 4294967295 ha (by decide)
 rw [show (4294967295 : Nat) = 2 ^ 32 - 1 by decide, Nat.and_two_pow_sub_one_eq_mod] at this
 exact this
theorem sh_ex (hi lo y : Nat) (h1 : hi < y) (h2 : y < 18446744073709551616) (h3 : lo < 18446744073709551616) :
  ∃ Y v1 v0 u t n1 n0 a b : Int, Sh hi lo y Y v1 v0 u t n1 n0 a b ∧ 2147483648 ≤ v1 ∧ v1 < 4294967296 ∧ 0 ≤ v0 ∧ v0 < 4294967296 ∧ Y = v1 * 4294967296 + v0 ∧ 0 ≤ u ∧ u < Y ∧ 0 ≤ n1 ∧ n1 < 4294967296 ∧ 0 ≤ n0 ∧ n0 < 4294967296 ∧
   (((hi * 18446744073709551616 + lo) * 2 ^ (64 - blen y) : Nat) : Int) = (u * 4294967296 + n1) * 4294967296 + n0 ∧ Y = ((y * 2 ^ (64 - blen y) : Nat) : Int) := by
 have hk : blen y ≤ 64 := (xBg _ _).mpr h2
 have l1 := xFa y
 have l2 := blen_le (a := y) (by omega)
 have hk0 : blen y ≠ 0 := fun e => by have := (xDs y).mp e; omega
 obtain ⟨k, hkk⟩ : ∃ k, blen y = k + 1 := ⟨blen y - 1, by omega⟩
 rw [hkk] at l1 l2 hk
 rw [hkk]
 simp only [Nat.add_sub_cancel] at l2
 have hp : 2 ^ (64 - (k + 1)) * 2 ^ (k + 1) = 18446744073709551616 := by rw [← Nat.pow_add, show 64 - (k + 1) + (k + 1) = 64 by omega]
 have hp2 : 2 ^ (64 - (k + 1)) * 2 ^ k = 9223372036854775808 := by rw [← Nat.pow_add, show 64 - (k + 1) + k = 63 by omega]
 have pp := Nat.two_pow_pos (64 - (k + 1))
 have qq := Nat.two_pow_pos (k + 1)
 have or1 : ∀ b, b < 2 ^ (64 - (k + 1)) → hi * 2 ^ (64 - (k + 1)) ||| b = hi * 2 ^ (64 - (k + 1)) + b := fun b hb => by
  rw [Nat.mul_comm, Nat.two_pow_add_eq_or_of_lt hb]
 have hs : 64 - (64 - (k + 1)) = k + 1 := by omega
 have c1 : ((2 : Int) ^ (64 - (k + 1))) = ((2 ^ (64 - (k + 1)) : Nat) : Int) := by simp
 have c2 : ((2 : Int) ^ (64 - (64 - (k + 1)))) = ((2 ^ (k + 1) : Nat) : Int) := by rw [hs]; simp
 generalize 2 ^ (64 - (k + 1)) = p at *
 generalize 2 ^ (k + 1) = g at *
 generalize 2 ^ k = g2 at *
 have y1 : y * p < 18446744073709551616 := by
  rw [← hp, Nat.mul_comm p g]; exact Nat.mul_lt_mul_of_pos_right l1 pp
 have y2 : 9223372036854775808 ≤ y * p := by rw [← hp2, Nat.mul_comm p g2]; exact Nat.mul_le_mul_right p l2
 have hy : hi * p + p ≤ y * p := by rw [← Nat.succ_mul]; exact Nat.mul_le_mul_right p h1
 have hb : lo / g < p := by
  rw [Nat.div_lt_iff_lt_mul qq, hp]; exact h3
 have e1 : lo * p = (lo / g) * 18446744073709551616 + (lo % g) * p := by
  have := Nat.div_add_mod lo g
  calc lo * p = (g * (lo / g) + lo % g) * p := by rw [this]
   _ = (lo / g) * (p * g) + (lo % g) * p := by rw [Nat.add_mul]; grind
   _ = _ := by rw [hp]
 have e2 : (lo % g) * p < 18446744073709551616 := by
  rw [← hp, Nat.mul_comm p g]; exact Nat.mul_lt_mul_of_pos_right (Nat.mod_lt _ qq) pp
 have eN : (hi * 18446744073709551616 + lo) * p = hi * p * 18446744073709551616 + lo * p := by grind
 refine ⟨((y * p : Nat) : Int), ((y * p / 4294967296 : Nat) : Int), ((y * p % 4294967296 : Nat) : Int), ((hi * p + lo / g : Nat) : Int), ((lo % g * p : Nat) : Int), ((lo % g * p / 4294967296 : Nat) : Int), ((lo % g * p % 4294967296 : Nat) : Int),
  ((hi * p : Nat) : Int), ((lo / g : Nat) : Int), ⟨?_, ?_, ?_, ?_, ?_, ?_, ?_, ?_, ?_⟩, ?_, ?_, ?_, ?_, ?_, ?_, ?_, ?_, ?_, ?_, ?_, ?_, rfl⟩
 ·rw [hkk, c1, ← Int.natCast_mul, IntKind.wrap_u64]; omega
 ·omega
 ·exact and_low _ y1
 ·rw [hkk, c1, ← Int.natCast_mul, IntKind.wrap_u64]; omega
 ·rw [hkk, c2]; omega
 ·rw [bits_or_u64_nat _ _ (by omega) (by omega), or1 _ hb]
 ·rw [hkk, c1, ← Int.natCast_mul, IntKind.wrap_u64, e1]; omega
 ·omega
 ·exact and_low _ e2
 ·omega
 ·omega
 ·omega
 ·omega
 ·omega
 ·omega
 ·omega
 ·omega
 ·omega
 ·omega
 ·omega
 ·rw [eN, e1]; omega
theorem div_fin (N y p : Nat) (Y D D' z z' u n1 n0 : Int) (hp : 0 < p) (hy : 0 < y) (hN : ((N * p : Nat) : Int) = (u * 4294967296 + n1) * 4294967296 + n0) (hY : Y = ((y * p : Nat) : Int)) (k1 : u * 4294967296 + n1 = D * Y + z) (k2 : z * 4294967296 + n0 = D' * Y + z')
  (z0 : 0 ≤ z') (z1 : z' < Y) (d0 : 0 ≤ D) (d0' : 0 ≤ D') : D * 4294967296 + D' = ((N / y : Nat) : Int) ∧ z' / (p : Int) = ((N % y : Nat) : Int) := by
 have e : ((N * p : Nat) : Int) = (D * 4294967296 + D') * Y + z' := by rw [hN, k1]; grind
 obtain ⟨q, hq⟩ := Int.eq_ofNat_of_zero_le (show 0 ≤ D * 4294967296 + D' by omega)
 obtain ⟨r, hr⟩ := Int.eq_ofNat_of_zero_le z0
 rw [hq, hY, hr, ← Int.natCast_mul, ← Int.natCast_add] at e
 have e' : N * p = q * (y * p) + r := by exact_mod_cast e
 rw [hY, hr] at z1
 have hr1 : r < y * p := by exact_mod_cast z1
 have hd : p ∣ r := by
  have : p ∣ q * (y * p) + r := ⟨N, by rw [← e', Nat.mul_comm]⟩
  exact (Nat.dvd_add_right ⟨q * y, by grind⟩).mp this
 obtain ⟨ρ, hρ⟩ := hd
 have hρ1 : ρ < y := by
  rw [hρ, Nat.mul_comm y p] at hr1
  exact Nat.lt_of_mul_lt_mul_left hr1
 have eN : N = q * y + ρ := by
  refine Nat.eq_of_mul_eq_mul_right hp ?_
  rw [e', hρ]; grind
 have f1 : N / y = q := by rw [eN, Nat.mul_comm, Nat.mul_add_div hy, Nat.div_eq_of_lt hρ1]; rfl
 have f2 : N % y = ρ := by rw [eN, Nat.mul_comm, Nat.mul_add_mod, Nat.mod_eq_of_lt hρ1]
 refine ⟨by rw [hq, f1], ?_⟩
 rw [hr, f2, hρ, ← Int.natCast_ediv, Nat.mul_div_cancel_left _ hp]
theorem xGo (hi lo y : Nat) (h1 : hi < y) (h2 : y < 18446744073709551616) (h3 : lo < 18446744073709551616) (w : World) :
  Calls Tryz.prog 229 #[.int .u64 (hi : Int), .int .u64 (lo : Int), .int .u64 (y : Int)] w fun e w' =>
  e = .returned (.tuple #[.int .u64 (((hi * 18446744073709551616 + lo) / y : Nat) : Int), .int .u64 (((hi * 18446744073709551616 + lo) % y : Nat) : Int)]) ∧ Below w.heap.size w w' := by
 have hR := Rep.init w
 have hb : blen y ≤ 64 := (xBg _ _).mpr h2
 have y0 : (y : Int) ≠ 0 := by omega
 by_cases hh : hi = 0
 ·subst hh
  simp only [Nat.zero_mul, Nat.zero_add]
  go_enter Tryz.func229, Tryz.ntmps229
  go_wp2_with (fail)
  refine xAd hR [0, 0, 0, 1, 1, 1, 2, 2] [] xBd (by kernel_rfl) rfl rfl (fun K hK => ?_)
  clear hR
  repeat ((first | (refine xAp ?_) | (refine' xAj (by decide) rfl (.inl rfl) rfl ?ha ?_) | ((refine' xAm (by decide) rfl rfl rfl rfl (fun w => ?hq) ?ha ?_); (case hq => go_simp; try rfl))); try (case ha => simp only [kP, kQ, kA, kB]; try rfl))
  refine xAo (hK _ _ ?_)
  clear hK K
  refine xAr (fun Q hQ => ?_)
  try simp only [List.nil_append, List.cons_append]
  repeat ((refine' xBf rfl (.inr rfl) rfl ?hk ?ha ?_); (case hk => intro p hp; first | exact absurd hp List.not_mem_nil | (obtain rfl := List.mem_singleton.1 hp; repeat (first | exact List.Mem.head _ | apply mT))); (case ha => simp only [kP, kQ, kA, kB]; try rfl))
  refine xAs (fun w hR => hQ _ _ ?_)
  clear hQ Q
  go_wp2_with (fail)
  go_ret2
  refine ⟨?_, hR.below⟩
  show Ending.returned (.tuple #[.int .u64 _, .int .u64 _]) = _
  have := Nat.div_le_self lo y
  rw [IntKind.wrap_u64, Int.tmod_eq_emod_of_nonneg (by omega), ← Int.natCast_ediv, ← Int.natCast_emod]
  generalize lo / y = d at *
  rw [Int.emod_eq_of_lt (by omega) (by omega)]
 ·have hh' : (hi : Int) ≠ 0 := by omega
  obtain ⟨Y, v1, v0, u, t, n1, n0, a, b, ⟨eY, ev1, ev0, ea, eb, eu, et, en1, en0⟩, v1l, v1h, v0l, v0h, hY, ul, uh, n1l, n1h, n0l, n0h, hN, hYs⟩ := sh_ex hi lo y h1 h2 h3
  have v10 : v1 ≠ 0 := by omega
  have hY' := hY.symm
  have Y0 : 9223372036854775808 ≤ Y := by omega
  have Y1 : Y < 18446744073709551616 := by omega
  obtain ⟨q, r, D, z, eq, er, q0, q1, m0, m1, r0, r1, p0, p1, d0, D0, D1, z0, z1, key1, hz, hcase⟩ := dig_all Y v1 v0 u n1 v1l v1h v0l v0h hY ul uh n1l n1h
  have fin := Held.mk fun D' z' => by
   have := div_fin _ y _ Y D D' z z' u n1 n0 (Nat.two_pow_pos _) (by omega) hN hYs key1
   rwa [Int.natCast_pow] at this
  clear hY hN hYs key1
  go_enter Tryz.func229, Tryz.ntmps229
  go_wp2_with (go_at_call 239; refine (lz_any y h2 _).mono ?_; rintro e w ⟨rfl, hb⟩; replace hR := hR.call hb; clear hb)
  try simp only [eY, ev1, ev0, ea, eb, eu, et, en1, en0, eq, er]
  refine' loop_cut (false :: false :: false :: false :: false :: false :: false :: false :: false :: false :: false :: false :: false :: false :: false :: false :: true :: false :: false :: false :: false :: false :: false :: false :: false :: false :: false :: false :: false :: false :: false :: false :: false :: false :: false :: false :: false :: false :: false :: false :: false :: false :: false :: false :: false :: false :: false :: false :: false :: false :: false :: false :: false :: false :: false :: false :: false :: false :: false :: true :: true :: true :: true :: true :: true :: true :: true :: true :: true :: true :: true :: true :: true :: true :: true :: true :: true :: true :: true :: true :: true :: true :: true :: true :: true :: true :: false :: false :: false :: false :: false :: false :: false :: false :: false :: false :: false :: false :: false :: false :: false :: false :: false :: false :: false :: false :: false :: false :: false :: false :: false :: false :: false :: false :: false :: false :: false :: false :: false :: false :: false :: false :: false :: false :: false :: false :: false :: false :: false :: false :: false :: false :: false :: false :: false :: []) 15 (.int .u64 D) (.exit 0) ?h1 ?h2
  case h1 =>
   intro Q' hQ'
   rename_i K0 k0
   clear k0 K0 fin hR eY ev1 ev0 ea eb eu et en1 en0 eq er h1 h2 h3 hb y0 hh hh' hY' ul uh n0l n0h m0 m1 hz z0 z1
   rcases hcase with ⟨c1, c2, hD⟩ | ⟨c1, c2, c3, hD⟩ | ⟨c1, c2, c3, c4, c5, c6, hD⟩ | ⟨c1, c2, c3, c4, c5, c6, c7, hD⟩
   all_goals refine wp_loop_rounds 3 ?_
   all_goals rw [rounds_succ]
   all_goals go_wp2_with (fail)
   all_goals (try rw [rounds_succ])
   all_goals (try go_wp2_with (fail))
   all_goals rw [hD.out]
   all_goals refine hQ'.out _ ?_
   all_goals refine xAf ?_ ?_ ?_
   all_goals first | rfl | trace_state
  case h2 =>
   intro tm ht
   repeat (first | (obtain ⟨x, tm', e, ht'⟩ := xAc ht; clear ht; subst e; have ht := ht'; clear ht') | (obtain ⟨tm', e, ht'⟩ := xAa ht; clear ht; subst e; have ht := ht'; clear ht'))
   obtain rfl := xAe ht
   clear ht hcase
   obtain ⟨q', r', D', z', eq', er', q0', q1', m0', m1', r0', r1', p0', p1', d0', D0', D1', z0', z1', key2, hz', hcase'⟩ := dig_all Y v1 v0 z n0 v1l v1h v0l v0h hY'.symm z0 z1 n0l n0h
   obtain ⟨f1, f2⟩ := fin.out D' z' key2 z0' z1' D0 D0'
   clear fin key2 eq er q0 q1 m0 m1 r0 r1 p0 p1 d0
   go_wp2_with (fail)
   try simp only [eY, ev1, ev0, ea, eb, eu, et, en1, en0, eq', er']
   refine' loop_cut (false :: false :: false :: false :: false :: false :: false :: false :: false :: false :: false :: false :: false :: false :: false :: false :: true :: false :: false :: false :: false :: false :: false :: false :: false :: false :: false :: false :: false :: false :: false :: false :: false :: false :: false :: false :: false :: false :: false :: false :: false :: false :: false :: false :: false :: false :: false :: false :: false :: false :: false :: false :: false :: false :: false :: false :: false :: false :: false :: false :: false :: false :: false :: false :: false :: false :: false :: false :: false :: false :: false :: false :: false :: false :: false :: false :: false :: false :: false :: false :: false :: false :: false :: false :: false :: false :: false :: false :: false :: false :: false :: false :: false :: false :: true :: true :: true :: true :: true :: true :: true :: true :: true :: true :: true :: true :: true :: true :: true :: true :: true :: true :: true :: true :: true :: true :: true :: true :: true :: true :: true :: false :: false :: false :: false :: false :: false :: false :: false :: false :: false :: false :: false :: false :: false :: []) 18 (.int .u64 D') (.exit 2) ?g1 ?g2
   case g1 =>
    intro Q' hQ'
    rename_i K0 k0
    clear k0 K0 hR f1 f2 hz' eY ev1 ev0 ea eb eu et en1 en0 eq' er' h1 h2 h3 hb y0 hh hh' hY' ul uh n1l n1h m0' m1' hz z0 z1 z0' z1'
    rcases hcase' with ⟨c1, c2, hD⟩ | ⟨c1, c2, c3, hD⟩ | ⟨c1, c2, c3, c4, c5, c6, hD⟩ | ⟨c1, c2, c3, c4, c5, c6, c7, hD⟩
    all_goals refine wp_loop_rounds 3 ?_
    all_goals rw [rounds_succ]
    all_goals go_wp2_with (fail)
    all_goals (try rw [rounds_succ])
    all_goals (try go_wp2_with (fail))
    all_goals rw [hD.out]
    all_goals refine hQ'.out _ ?_
    all_goals refine xAf ?_ ?_ ?_
    all_goals first | rfl | trace_state
   case g2 =>
    intro tm ht
    repeat (first | (obtain ⟨x, tm', e, ht'⟩ := xAc ht; clear ht; subst e; have ht := ht'; clear ht') | (obtain ⟨tm', e, ht'⟩ := xAa ht; clear ht; subst e; have ht := ht'; clear ht'))
    obtain rfl := xAe ht
    clear ht hcase'
    generalize hQn : (hi * 18446744073709551616 + lo) / y = Qn at f1
    generalize hRn : (hi * 18446744073709551616 + lo) % y = Rn at f2
    replace hQn := Held.mk hQn
    replace hRn := Held.mk hRn
    replace f2 : z' / (2 : Int) ^ (64 - blen y) = (Rn : Int) := f2
    have f3 : (Qn : Int) < 18446744073709551616 := by omega
    go_wp2_with (fail)
    go_ret2
    refine ⟨?_, hR.below⟩
    show Ending.returned (.tuple #[.int .u64 _, .int .u64 _]) = _
    rw [hQn.out, hRn.out]
end Go.Proofs.YtaaahfjpnggkbaaGreatDoor
