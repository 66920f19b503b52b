import Derived.Test.YtaaahfjpnggkbaaGreatDoorHA
import Derived.Test.YtaaahfjpnggkbaaGreatDoorShelf
import Derived.Laws.Bits64b
set_option linter.unusedSimpArgs false
set_option linter.unusedVariables false
set_option maxRecDepth 100000
set_option maxHeartbeats 20000000
namespace Go.Proofs.YtaaahfjpnggkbaaGreatDoor
open Go.RowKit
section
theorem add_any (a b : Nat) (ha : a < B) (hb : b < B) (w : World) : Calls Tryz.prog 203 #[num a, num b] w fun e w' =>
  e = .returned (.tuple #[num (a + b), .int .u64 (((a + b) / B : Nat) : Int)]) ∧ Below w.heap.size w w' := by
 have a0 := xDz a 0; have a1 := xDz a 1; have a2 := xDz a 2; have a3 := xDz a 3
 have b0 := xDz b 0; have b1 := xDz b 1; have b2 := xDz b 2; have b3 := xDz b 3
 have k1 := ca_lo (wd a 0) (wd b 0) 0 a0 b0 (by decide)
 have j1 := ca_hi (wd a 0) (wd b 0) 0 (xEk _ _) (xEk _ _) (by decide)
 have k2 := ca_lo (wd a 1) (wd b 1) _ a1 b1 k1
 have j2 := ca_hi (wd a 1) (wd b 1) _ (xEk _ _) (xEk _ _) j1
 have k3 := ca_lo (wd a 2) (wd b 2) _ a2 b2 k2
 have j3 := ca_hi (wd a 2) (wd b 2) _ (xEk _ _) (xEk _ _) j2
 have hR := Rep.init w
 go_enter Tryz.func203, Tryz.ntmps203
 go_wp2_with (first | (refine' aAq hR ?_; clear hR; intro blk w hR) | (refine' aBq hR ?_; clear hR; intro blk w hR))
 refine wp_loop_rounds 5 ?_
 iterate 4
  rw [rounds_succ]
  go_wp2_with (fail)
  refine xAd hR [0, 0, 0, 0, 0, 0, 0, 0, 0, 0, 0, 1, 0, 2, 2] [] xBd (by kernel_rfl) rfl rfl (fun K hK => ?_)
  clear hR
  repeat ((first | (refine xAp ?_) | (refine' xAj (by decide) rfl (.inl rfl) rfl ?ha ?_) | (refine' aCq ?ha ?_) | ((first | refine' xAg (by decide) rfl rfl rfl rfl (fun w => ?hq) ?ha ?_ | refine' xAt (by decide) rfl rfl rfl (fun w => ?hq) ?ha ?_); (case hq => go_simp; try rfl)) | (refine' hd_extern (by decide) rfl rfl rfl (fun w => ?hq) ?ha ?_; (case hq => first | exact add64' _ _ _ (by assumption) (by assumption) (by first | assumption | decide) (by first | assumption | decide) w | (rw [add64' _ _ _ (by assumption) (by assumption) (by first | assumption | decide) (by first | assumption | decide) w])))); try (case ha => simp only [kP, kQ, kA, kB]; try rfl))
  refine xAo (hK _ _ ?_)
  clear hK K
  refine xAr (fun Q hQ => ?_)
  try simp only [List.nil_append, List.cons_append]
  repeat ((first | refine' xBf rfl (.inr rfl) rfl ?hk ?ha ?_ | (refine' aDq ?hk ?ha ?_)); (case hk => intro p hp; first | exact absurd hp List.not_mem_nil | (obtain rfl := List.mem_singleton.1 hp; repeat (first | exact List.Mem.head _ | apply mT))); (case ha => simp only [kP, kQ, kA, kB]; try rfl))
  refine xAs (fun w hR => hQ _ _ ?_)
  clear hQ Q
  go_wp2_with (fail)
 rw [rounds_succ]
 go_wp2_with (first | (refine' aEq hR ?_) | (refine' aFq hR ?_; clear hR; intro w hR))
 refine' bodyPost_ret (xAh Tryz.results203 rfl (hR.loadAll (P := Tryz.prog) (ty := 24) ?hm ?hn)) rfl ⟨?_, hR.below⟩
 case hm => exact List.Mem.head _
 case hn => rfl
 obtain ⟨e1, e2⟩ := nl_add a b ha hb _ _ _ _ rfl rfl rfl rfl
 show Ending.returned (.tuple #[.agg (List.toArray [_, _, _, _]), .int .u64 _]) = _
 simp only [sm_def, ca_def, Int.add_zero]
 rw [e1, e2]
end
section
theorem sub_any (a b : Nat) (ha : a < B) (hb : b < B) (w : World) : Calls Tryz.prog 204 #[num a, num b] w fun e w' =>
  e = .returned (.tuple #[num (a + B - b), .int .u64 (bor a b)]) ∧ Below w.heap.size w w' := by
 have a0 := xDz a 0; have a1 := xDz a 1; have a2 := xDz a 2; have a3 := xDz a 3
 have b0 := xDz b 0; have b1 := xDz b 1; have b2 := xDz b 2; have b3 := xDz b 3
 have v0 := xEk b 0; have v1 := xEk b 1; have v2 := xEk b 2; have v3 := xEk b 3
 have k1 := bw_lo (wd a 0) (wd b 0) 0
 have j1 := bw_hi (wd a 0) (wd b 0) 0
 have k2 := bw_lo (wd a 1) (wd b 1) (bw (wd a 0) (wd b 0) 0)
 have j2 := bw_hi (wd a 1) (wd b 1) (bw (wd a 0) (wd b 0) 0)
 have k3 := bw_lo (wd a 2) (wd b 2) (bw (wd a 1) (wd b 1) (bw (wd a 0) (wd b 0) 0))
 have j3 := bw_hi (wd a 2) (wd b 2) (bw (wd a 1) (wd b 1) (bw (wd a 0) (wd b 0) 0))
 have hR := Rep.init w
 go_enter Tryz.func204, Tryz.ntmps204
 go_wp2_with (first | (refine' aAq hR ?_; clear hR; intro blk w hR) | (refine' aBq hR ?_; clear hR; intro blk w hR))
 refine wp_loop_rounds 5 ?_
 iterate 4
  rw [rounds_succ]
  go_wp2_with (fail)
  refine xAd hR [0, 0, 0, 0, 0, 0, 0, 0, 0, 0, 0, 1, 0, 2, 2] [] xBd (by kernel_rfl) rfl rfl (fun K hK => ?_)
  clear hR
  repeat ((first | (refine xAp ?_) | (refine' xAj (by decide) rfl (.inl rfl) rfl ?ha ?_) | (refine' aCq ?ha ?_) | ((first | refine' xAg (by decide) rfl rfl rfl rfl (fun w => ?hq) ?ha ?_ | refine' xAt (by decide) rfl rfl rfl (fun w => ?hq) ?ha ?_); (case hq => go_simp; try rfl)) | (refine' hd_extern (by decide) rfl rfl rfl (fun w => ?hq) ?ha ?_; (case hq => first | exact sub64' _ _ _ (by assumption) (by assumption) (by assumption) (by first | assumption | decide) (by first | assumption | decide) w | (rw [sub64' _ _ _ (by assumption) (by assumption) (by assumption) (by first | assumption | decide) (by first | assumption | decide) w])))); try (case ha => simp only [kP, kQ, kA, kB]; try rfl))
  refine xAo (hK _ _ ?_)
  clear hK K
  refine xAr (fun Q hQ => ?_)
  try simp only [List.nil_append, List.cons_append]
  repeat ((first | refine' xBf rfl (.inr rfl) rfl ?hk ?ha ?_ | (refine' aDq ?hk ?ha ?_)); (case hk => intro p hp; first | exact absurd hp List.not_mem_nil | (obtain rfl := List.mem_singleton.1 hp; repeat (first | exact List.Mem.head _ | apply mT))); (case ha => simp only [kP, kQ, kA, kB]; try rfl))
  refine xAs (fun w hR => hQ _ _ ?_)
  clear hQ Q
  go_wp2_with (fail)
 rw [rounds_succ]
 go_wp2_with (first | (refine' aEq hR ?_) | (refine' aFq hR ?_; clear hR; intro w hR))
 refine' bodyPost_ret (xAh Tryz.results204 rfl (hR.loadAll (P := Tryz.prog) (ty := 24) ?hm ?hn)) rfl ⟨?_, hR.below⟩
 case hm => exact List.Mem.head _
 case hn => rfl
 obtain ⟨e1, e2⟩ := nl_sub a b ha hb _ _ _ _ rfl rfl rfl rfl
 show Ending.returned (.tuple #[.agg (List.toArray [_, _, _, _]), .int .u64 _]) = _
 simp only [df_def, bw_def, Int.add_zero, Int.sub_zero]
 rw [e1, e2]
end
section
theorem nl_small (n : Nat) (h : n < 18446744073709551616) : nl n = [.int .u64 (n : Int), .int .u64 0, .int .u64 0, .int .u64 0] := by
 have e := nl_ofW n 0 0 0 h (by decide) (by decide) (by decide)
 have e2 : ofW n 0 0 0 = n := by unfold ofW; omega
 rw [e2] at e
 exact e
theorem lt_B {n : Nat} (h : n < 18446744073709551616) : n < B := by rw [B_eq]; omega
noncomputable def cmpN : Nat → Nat → Int := opq fun a b => if a = b then 0 else if a < b then -1 else 1
theorem xEf (a b : Nat) : cmpN a b = if a = b then 0 else if a < b then -1 else 1 := by unfold cmpN; rw [xBs]
theorem xHi (a b : Nat) : cmpN a b ≤ 0 ↔ a ≤ b := by rw [xEf]; split <;> (try split) <;> omega
theorem cmpN_lt (a b : Nat) : cmpN a b < 0 ↔ a < b := by rw [xEf]; split <;> (try split) <;> omega
theorem xFv (a b : Nat) : 0 ≤ cmpN a b ↔ b ≤ a := by rw [xEf]; split <;> (try split) <;> omega
theorem cmpN_gt (a b : Nat) : 0 < cmpN a b ↔ b < a := by rw [xEf]; split <;> (try split) <;> omega
theorem xFh (n : Nat) (hn : n < 18446744073709551616) (w : World) : Calls Tryz.prog 171 #[.int .u64 (n : Int)] w fun e w' =>
  e = .returned (num n) ∧ Below w.heap.size w w' := by
 have hR := Rep.init w
 go_enter Tryz.func171, Tryz.ntmps171
 go_wp2_with (first | (refine' aBq hR ?_; clear hR; intro blk w hR) | (refine' aFq hR ?_; clear hR; intro w hR))
 (refine' bodyPost_ret (xAq Tryz.results171 rfl (hR.loadAll (P := Tryz.prog) (ty := 24) ?hm ?hn)) rfl ⟨?_, hR.below⟩; (case hm => first | with_reducible assumption | repeat (first | exact .head _ | apply mT)); (case hn => first | rfl | simp))
 show Ending.returned (.agg (List.toArray _)) = _
 unfold num
 rw [nl_small n hn]
theorem cmp_c1 {a b : Nat} (ha : a < B) (hb : b < B) (h : eqN a b = true) : (0 : Int) = cmpN a b := by
 rw [xIn, Nat.mod_eq_of_lt ha, Nat.mod_eq_of_lt hb, decide_eq_true_iff] at h
 rw [xEf, if_pos h]
theorem cmp_c2 {a b : Nat} (ha : a < B) (hb : b < B) (h : eqN a b = false) (k : (bor a b == 1) = true) : (-1 : Int) = cmpN a b := by
 rw [xIn, Nat.mod_eq_of_lt ha, Nat.mod_eq_of_lt hb, decide_eq_false_iff_not] at h
 rw [xEf, if_neg h]
 rw [xDo] at k
 by_cases q : (a : Int) < b
 ·rw [if_pos (by omega)]
 ·rw [if_neg q] at k; cases k
theorem cmp_c3 {a b : Nat} (ha : a < B) (hb : b < B) (h : eqN a b = false) (k : (bor a b == 1) = false) : (1 : Int) = cmpN a b := by
 rw [xIn, Nat.mod_eq_of_lt ha, Nat.mod_eq_of_lt hb, decide_eq_false_iff_not] at h
 rw [xEf, if_neg h]
 rw [xDo] at k
 by_cases q : (a : Int) < b
 ·rw [if_pos q] at k; cases k
 ·rw [if_neg (by omega)]
theorem cmp_any (a b : Nat) (ha : a < B) (hb : b < B) (w : World) : Calls Tryz.prog 183 #[num a, num b] w fun e w' =>
  e = .returned (.int .i64 (cmpN a b)) ∧ Below w.heap.size w w' := by
 have hR := Rep.init w
 go_enter Tryz.func183, Tryz.ntmps183
 go_wp2_with (first | (refine' aAq hR ?_; clear hR; intro blk w hR) | (refine' aBq hR ?_; clear hR; intro blk w hR) | (refine' aEq hR ?_) | (refine' aFq hR ?_; clear hR; intro w hR) | (go_at_call 204; refine (sub_any a b ha hb _).mono ?_; rintro e w ⟨rfl, hb⟩; replace hR := hR.call hb; clear hb))
 all_goals go_ret
 ·exact ⟨congrArg (fun x => Ending.returned (.int .i64 x)) (cmp_c1 ha hb (by assumption)), hR.below⟩
 ·exact ⟨congrArg (fun x => Ending.returned (.int .i64 x)) (cmp_c2 ha hb (by assumption) (by assumption)), hR.below⟩
 ·exact ⟨congrArg (fun x => Ending.returned (.int .i64 x)) (cmp_c3 ha hb (by assumption) (by assumption)), hR.below⟩
end
section
noncomputable def bitN : Nat → Int → Int := opq fun a i => if i < 0 ∨ 256 ≤ i then 0 else ((a / 2 ^ i.toNat % 2 : Nat) : Int)
theorem xIh (a : Nat) (i : Int) : bitN a i = if i < 0 ∨ 256 ≤ i then 0 else ((a / 2 ^ i.toNat % 2 : Nat) : Int) := by unfold bitN; rw [xBs]
theorem nl_at (a k : Nat) (h : k < 4) : (nl a)[k]? = some (.int .u64 (wd a k)) := by
 have : k = 0 ∨ k = 1 ∨ k = 2 ∨ k = 3 := by omega
 unfold nl
 rcases this with rfl | rfl | rfl | rfl <;> rfl
theorem pow64 (k : Nat) : 18446744073709551616 ^ k = 2 ^ (64 * k) := by rw [show 18446744073709551616 = 2 ^ 64 by decide, ← Nat.pow_mul]
theorem bits_and1 (x : Int) (h0 : 0 ≤ x) (h1 : x < 18446744073709551616) : bits .and .u64 x 1 = x % 2 := by
 obtain ⟨n, rfl⟩ := Int.eq_ofNat_of_zero_le h0
 have := bits_and_u64_nat n 1 (by omega) (by decide)
 rw [Nat.and_one_is_mod] at this
 rw [show ((1 : Nat) : Int) = 1 from rfl] at this
 rw [this]; omega
theorem bit_of_word (a j r : Nat) (hr : r < 64) : (w64 a j / 2 ^ r) % 2 = a / 2 ^ (64 * j + r) % 2 := by
 unfold w64
 rw [pow64, Nat.pow_add, ← Nat.div_div_eq_div_mul]
 generalize a / 2 ^ (64 * j) = x
 have e1 : (x % 18446744073709551616 / 2 ^ r) % 2 = if (x % 2 ^ 64).testBit r then 1 else 0 := by
  rw [Nat.testBit_eq_decide_div_mod_eq, show (2 : Nat) ^ 64 = 18446744073709551616 by decide]
  by_cases q : x % 18446744073709551616 / 2 ^ r % 2 = 1
  ·simp [q]
  ·simp [q]; omega
 have e2 : (x / 2 ^ r) % 2 = if x.testBit r then 1 else 0 := by
  rw [Nat.testBit_eq_decide_div_mod_eq]
  by_cases q : x / 2 ^ r % 2 = 1
  ·simp [q]
  ·simp [q]; omega
 rw [e1, e2, Nat.testBit_mod_two_pow]
 simp [hr]
theorem bit_plain (a : Nat) (i : Int) (h : ¬(i < 0 ∨ 256 ≤ i)) : bits .and .u64 (wd a (i / 64).toNat / 2 ^ (i % 64).toNat) 1 = bitN a i := by
 rw [xIh, if_neg h, xFm]
 obtain ⟨n, rfl⟩ := Int.eq_ofNat_of_zero_le (show 0 ≤ i by omega)
 have e1 : ((n : Int) / 64).toNat = n / 64 := by omega
 have e2 : ((n : Int) % 64).toNat = n % 64 := by omega
 rw [e1, e2, show (2 : Int) ^ (n % 64) = ((2 ^ (n % 64) : Nat) : Int) by simp, ← Int.natCast_ediv]
 have lt : w64 a (n / 64) / 2 ^ (n % 64) < 18446744073709551616 := Nat.lt_of_le_of_lt (Nat.div_le_self _ _) (xDb _ _)
 have := bit_of_word a (n / 64) (n % 64) (by omega)
 rw [show 64 * (n / 64) + n % 64 = n by omega] at this
 rw [Int.toNat_natCast, ← this]
 generalize w64 a (n / 64) / 2 ^ (n % 64) = q at lt ⊢
 rw [bits_and1 _ (by omega) (by omega)]
 omega
theorem bit_any (a : Nat) (i : Int) (ha : a < B) (w : World) : Calls Tryz.prog 231 #[num a, .int .i64 i] w fun e w' =>
  e = .returned (.int .u64 (bitN a i)) ∧ Below w.heap.size w w' := by
 have hR := Rep.init w
 by_cases h : i < 0 ∨ 256 ≤ i
 ·have hb : bitN a i = 0 := by rw [xIh, if_pos h]
  rw [hb]
  go_enter Tryz.func231, Tryz.ntmps231
  go_wp2_with (refine' aAq hR ?_; clear hR; intro blk w hR)
  all_goals first | (exfalso; omega; done) | skip
  all_goals go_ret
  all_goals exact ⟨rfl, hR.below⟩
 ·have hv := nl_at a (i / 64).toNat (by omega)
  have l0 := xDz a (i / 64).toNat
  have l1 := xEk a (i / 64).toNat
  go_enter Tryz.func231, Tryz.ntmps231
  go_wp2_with (first | (refine' aAq hR ?_; clear hR; intro blk w hR) | (refine' aGq hR ?_))
  all_goals first | (exfalso; omega; done) | skip
  all_goals go_ret
  exact ⟨congrArg (fun x => Ending.returned (.int .u64 x)) (bit_plain a i h), hR.below⟩
theorem xDj (a k : Nat) (h : k < 256) : bitN a k = ((a / 2 ^ k % 2 : Nat) : Int) := by
 rw [xIh, if_neg (by omega)]; rfl
noncomputable def blen : Nat → Nat := opq fun a => if a = 0 then 0 else a.log2 + 1
theorem blen_def (a : Nat) : blen a = if a = 0 then 0 else a.log2 + 1 := by unfold blen; rw [xBs]
theorem xFa (a : Nat) : a < 2 ^ blen a := by
 rw [blen_def]; split
 ·omega
 ·exact Nat.lt_log2_self
theorem blen_le {a : Nat} (h : a ≠ 0) : 2 ^ (blen a - 1) ≤ a := by
 rw [blen_def, if_neg h]; exact Nat.log2_self_le h
theorem xDs (a : Nat) : blen a = 0 ↔ a = 0 := by rw [blen_def]; split <;> omega
theorem blen_of {a k : Nat} (h1 : 2 ^ k ≤ a) (h2 : a < 2 ^ (k + 1)) : blen a = k + 1 := by
 have h0 : a ≠ 0 := by have := Nat.two_pow_pos k; omega
 rw [blen_def, if_neg h0]
 have := (Nat.log2_lt h0).mpr h2
 have := (Nat.le_log2 h0).mpr h1
 omega
theorem xBg (a k : Nat) : blen a ≤ k ↔ a < 2 ^ k := by
 constructor
 ·intro h; exact Nat.lt_of_lt_of_le (xFa a) (Nat.pow_le_pow_right (by decide) h)
 ·intro h
  by_cases h0 : a = 0
  ·have := (xDs a).mpr h0; omega
  ·have h1 := blen_le h0
   have := (Nat.pow_lt_pow_iff_right (a := 2) (by decide)).mp (Nat.lt_of_le_of_lt h1 h)
   omega
theorem xIk : ∀ (f x : Nat), x < 2 ^ f → Lib.bitLenAux f x = blen x
  | 0, x, h => by
    have : x = 0 := by simpa using h
    rw [this, (xDs 0).mpr rfl]; rfl
  | f + 1, x, h => by
    unfold Lib.bitLenAux
    by_cases h0 : x = 0
    · rw [if_pos h0, (xDs x).mpr h0]
    · rw [if_neg h0, xIk f (x / 2) (by rw [Nat.pow_succ] at h; omega)]
      by_cases h1 : x / 2 = 0
      · rw [(xDs _).mpr h1, blen_of (k := 0) (by omega) (by omega)]
      · have l1 := blen_le h1
        have l2 := xFa (x / 2)
        have p : blen (x / 2) ≠ 0 := fun e => h1 ((xDs _).mp e)
        obtain ⟨k, hk⟩ : ∃ k, blen (x / 2) = k + 1 := ⟨blen (x / 2) - 1, by omega⟩
        rw [hk] at l1 l2 ⊢
        rw [blen_of (a := x) (k := k + 1) (by rw [Nat.pow_succ]; simp at l1; omega) (by rw [Nat.pow_succ]; omega)]
        omega
theorem bitLen_eq (x : Nat) (h : x < 18446744073709551616) : Lib.bitLen x = blen x := xIk 64 x h
theorem xHs (a j : Nat) (hj : j < 4) (h : w64 a j ≠ 0) (hz : a / 2 ^ (64 * (j + 1)) = 0) : blen a = 64 * j + blen (w64 a j) := by
 have p : blen (w64 a j) ≠ 0 := fun e => h ((xDs _).mp e)
 have l1 := blen_le h
 have l2 := xFa (w64 a j)
 obtain ⟨k, hk⟩ : ∃ k, blen (w64 a j) = k + 1 := ⟨blen (w64 a j) - 1, by omega⟩
 rw [hk] at l1 l2 ⊢
 have e : w64 a j = a / 2 ^ (64 * j) := by
  unfold w64
  rw [pow64]
  apply Nat.mod_eq_of_lt
  rw [show 64 * (j + 1) = 64 * j + 64 by omega, Nat.pow_add, ← Nat.div_div_eq_div_mul, Nat.div_eq_zero_iff] at hz
  rcases hz with hz | hz
  ·exact absurd hz (by decide)
  ·exact hz
 rw [e] at l1 l2
 rw [show 64 * j + (k + 1) = (64 * j + k) + 1 by omega]
 apply blen_of
 ·rw [Nat.pow_add, Nat.mul_comm]
  simp at l1
  exact (Nat.le_div_iff_mul_le (Nat.two_pow_pos _)).mp l1
 ·rw [show 64 * j + k + 1 = 64 * j + (k + 1) by omega, Nat.pow_add, Nat.mul_comm]
  exact (Nat.div_lt_iff_lt_mul (Nat.two_pow_pos _)).mp l2
theorem Calls.below {P : Program} {f : Nat} {args : Array Value} {w : World} {v : Value} (h : Calls P f args w fun e w' => e = .returned v ∧ w' = w) :
  Calls P f args w fun e w' => e = .returned v ∧ Below w.heap.size w w' := h.mono fun e w' ⟨h1, h2⟩ => ⟨h1, by rw [h2]; exact Below.refl _ _⟩
theorem len_word (a j : Nat) (w : World) : Calls Tryz.prog 174 #[.int .u64 (wd a j)] w fun e w' =>
  e = .returned (.int .i64 ((blen (w64 a j) : Nat) : Int)) ∧ Below w.heap.size w w' := by
 have h := Tryz.bits_Len64 (wd a j) w (xDz _ _) (by have := xEk a j; omega)
 rw [xFm] at h ⊢
 rw [Int.toNat_natCast, bitLen_eq _ (xDb _ _)] at h
 exact Calls.below h
theorem blen_w64 (a j : Nat) : blen (w64 a j) ≤ 64 := (xBg _ _).mpr (xDb a j)
theorem bits_3 (a : Nat) (ha : a < B) (h : 0 < wd a 3) : ((blen (w64 a 3) : Nat) : Int) + 192 = blen a := by
 rw [xFm] at h
 rw [xHs a 3 (by decide) (by omega) (Nat.div_eq_of_lt (by rw [B_eq] at ha; exact ha))]; omega
theorem bits_2 (a : Nat) (ha : a < B) (k3 : ¬ 0 < wd a 3) (h : 0 < wd a 2) : ((blen (w64 a 2) : Nat) : Int) + 128 = blen a := by
 rw [xFm] at h k3
 have := xEz a
 rw [Nat.mod_eq_of_lt ha, show w64 a 3 = 0 by omega] at this
 have l0 := xDb a 0; have l1 := xDb a 1; have l2 := xDb a 2
 unfold ofW at this
 rw [xHs a 2 (by decide) (by omega) (Nat.div_eq_of_lt (by omega))]; omega
theorem bits_1 (a : Nat) (ha : a < B) (k3 : ¬ 0 < wd a 3) (k2 : ¬ 0 < wd a 2) (h : 0 < wd a 1) : ((blen (w64 a 1) : Nat) : Int) + 64 = blen a := by
 rw [xFm] at h k3 k2
 have := xEz a
 rw [Nat.mod_eq_of_lt ha, show w64 a 3 = 0 by omega, show w64 a 2 = 0 by omega] at this
 have l0 := xDb a 0; have l1 := xDb a 1
 unfold ofW at this
 rw [xHs a 1 (by decide) (by omega) (Nat.div_eq_of_lt (by omega))]; omega
theorem bits_0 (a : Nat) (ha : a < B) (k3 : ¬ 0 < wd a 3) (k2 : ¬ 0 < wd a 2) (k1 : ¬ 0 < wd a 1) (h : 0 < wd a 0) : ((blen (w64 a 0) : Nat) : Int) = blen a := by
 rw [xFm] at h k3 k2 k1
 have := xEz a
 rw [Nat.mod_eq_of_lt ha, show w64 a 3 = 0 by omega, show w64 a 2 = 0 by omega, show w64 a 1 = 0 by omega] at this
 have l0 := xDb a 0
 unfold ofW at this
 rw [xHs a 0 (by decide) (by omega) (Nat.div_eq_of_lt (by omega))]; omega
theorem bits_n (a : Nat) (ha : a < B) (k3 : ¬ 0 < wd a 3) (k2 : ¬ 0 < wd a 2) (k1 : ¬ 0 < wd a 1) (h : ¬ 0 < wd a 0) : (0 : Int) = blen a := by
 rw [xFm] at h k3 k2 k1
 have := xEz a
 rw [Nat.mod_eq_of_lt ha, show w64 a 3 = 0 by omega, show w64 a 2 = 0 by omega, show w64 a 1 = 0 by omega] at this
 unfold ofW at this
 have := (xDs a).mpr (by omega)
 omega
theorem xGb (a : Nat) (ha : a < B) (w : World) : Calls Tryz.prog 169 #[num a] w fun e w' =>
  e = .returned (.int .i64 (blen a : Int)) ∧ Below w.heap.size w w' := by
 have hR := Rep.init w
 have a0 := xDz a 0; have a1 := xDz a 1; have a2 := xDz a 2; have a3 := xDz a 3
 have b0 := xEk a 0; have b1 := xEk a 1; have b2 := xEk a 2; have b3 := xEk a 3
 have c0 := blen_w64 a 0; have c1 := blen_w64 a 1; have c2 := blen_w64 a 2; have c3 := blen_w64 a 3
 go_enter Tryz.func169, Tryz.ntmps169
 go_wp2_with (refine' aAq hR ?_; clear hR; intro blk w hR)
 refine wp_loop_rounds 5 ?_
 rw [rounds_succ]
 go_wp2_with (first | (refine' aGq hR ?_) | (go_at_call 174; refine (len_word a 3 _).mono ?_; rintro e w ⟨rfl, hb⟩; replace hR := hR.call hb; clear hb))
 ·go_ret
  exact ⟨congrArg (fun x => Ending.returned (.int .i64 x)) (by have := bits_3 a ha (by assumption); first | omega | (go_simp; done) | (go_simp; omega)), hR.below⟩
 rw [rounds_succ]
 go_wp2_with (first | (refine' aGq hR ?_) | (go_at_call 174; refine (len_word a 2 _).mono ?_; rintro e w ⟨rfl, hb⟩; replace hR := hR.call hb; clear hb))
 ·go_ret
  exact ⟨congrArg (fun x => Ending.returned (.int .i64 x)) (by have := bits_2 a ha (by omega) (by assumption); first | omega | (go_simp; done) | (go_simp; omega)), hR.below⟩
 rw [rounds_succ]
 go_wp2_with (first | (refine' aGq hR ?_) | (go_at_call 174; refine (len_word a 1 _).mono ?_; rintro e w ⟨rfl, hb⟩; replace hR := hR.call hb; clear hb))
 ·go_ret
  exact ⟨congrArg (fun x => Ending.returned (.int .i64 x)) (by have := bits_1 a ha (by omega) (by omega) (by assumption); first | omega | (go_simp; done) | (go_simp; omega)), hR.below⟩
 rw [rounds_succ]
 go_wp2_with (first | (refine' aGq hR ?_) | (go_at_call 174; refine (len_word a 0 _).mono ?_; rintro e w ⟨rfl, hb⟩; replace hR := hR.call hb; clear hb))
 ·go_ret
  exact ⟨congrArg (fun x => Ending.returned (.int .i64 x)) (by have := bits_0 a ha (by omega) (by omega) (by omega) (by assumption); first | omega | (go_simp; done) | (go_simp; omega)), hR.below⟩
 rw [rounds_succ]
 go_wp2_with (fail)
 go_ret
 exact ⟨congrArg (fun x => Ending.returned (.int .i64 x)) (bits_n a ha (by omega) (by omega) (by omega) (by omega)), hR.below⟩
end
section
theorem xHr (a : Nat) (ha : a < B) (w : World) : Calls Tryz.prog 228 #[num a] w fun e w' =>
  e = .returned (.bool (decide (a < 18446744073709551616))) ∧ Below w.heap.size w w' := by
 have hR := Rep.init w
 go_enter Tryz.func228, Tryz.ntmps228
 go_wp2_with (first | (refine' aAq hR ?_; clear hR; intro blk w hR) | (refine' aEq hR ?_) | (go_at_call 169; refine (xGb a ha _).mono ?_; rintro e w ⟨rfl, hb⟩; replace hR := hR.call hb; clear hb))
 go_ret
 refine ⟨?_, hR.below⟩
 refine congrArg (fun x => Ending.returned (.bool x)) ?_
 have := xBg a 64
 rw [decide_eq_decide]
 constructor
 ·intro h; exact this.mp (by omega)
 ·intro h; have := this.mpr h; omega
theorem bits_or1 (x b : Nat) (hx : x < 9223372036854775808) (hb : b < 2) : bits BinOp.or IntKind.u64 ((2 * x : Nat) : Int) (b : Int) = ((2 * x + b : Nat) : Int) := by
 rw [bits_or_u64_nat _ _ (by omega) (by omega)]
 have := Nat.two_pow_add_eq_or_of_lt (i := 1) (b := b) (by omega) x
 rw [show (2 : Nat) ^ 1 = 2 from rfl] at this
 rw [this]
theorem nl_bit (r bit : Nat) (hb : bit < 2) :
  [Value.int .u64 (bits BinOp.or IntKind.u64 (wd (r + r) 0) (bit : Int)), .int .u64 (wd (r + r) 1), .int .u64 (wd (r + r) 2), .int .u64 (wd (r + r) 3)] = nl ((2 * r + bit) % B) := by
 rw [nl_mod]
 have e0 : bits BinOp.or IntKind.u64 (wd (r + r) 0) (bit : Int) = wd (2 * r + bit) 0 := by
  rw [xDe, xDe, show (r + r) / 18446744073709551616 ^ 0 % 18446744073709551616 = 2 * (r % 9223372036854775808) by omega, bits_or1 _ _ (by omega) hb]
  omega
 have e : ∀ i, wd (r + r) (i + 1) = wd (2 * r + bit) (i + 1) := fun i => by
  rw [xDe, xDe, Nat.pow_succ, Nat.mul_comm, ← Nat.div_div_eq_div_mul, ← Nat.div_div_eq_div_mul, show (r + r) / 18446744073709551616 = (2 * r + bit) / 18446744073709551616 by omega]
 unfold nl
 rw [e0, e 0, e 1, e 2]
theorem next_cases (r bit m : Nat) (hr : r < m) (hm : m < B) (hb : bit < 2) : ∃ X : Nat, (2 * r + bit) % B = X ∧ X < B ∧
    ((((r : Int) + r) / (B : Int) = 1 ∧ num (X + B - m) = num ((2 * r + bit) % m) ∧ (1 : Int) = (((2 * r + bit) / m : Nat) : Int)) ∨
     (((r : Int) + r) / (B : Int) = 0 ∧ bor (X : Int) (m : Int) = 0 ∧ num (X + B - m) = num ((2 * r + bit) % m) ∧ (1 : Int) = (((2 * r + bit) / m : Nat) : Int)) ∨
     (((r : Int) + r) / (B : Int) = 0 ∧ bor (X : Int) (m : Int) = 1 ∧ num X = num ((2 * r + bit) % m) ∧ (0 : Int) = (((2 * r + bit) / m : Nat) : Int))) := by
  have bp := xEy
  have b2 : B = 2 * (B / 2) := by rw [B_eq]
  have hd : ∀ c : Nat, c * B ≤ r + r → r + r < (c + 1) * B → ((r : Int) + r) / (B : Int) = (c : Int) := fun c h1 h2 => by
    rw [← Int.natCast_add, ← Int.natCast_ediv]
    exact congrArg Nat.cast ((Nat.div_eq_iff bp).mpr ⟨by omega, by rw [Nat.add_mul, Nat.one_mul] at h2; omega⟩)
  refine ⟨_, rfl, Nat.mod_lt _ bp, ?_⟩
  have sub : m ≤ 2 * r + bit → (2 * r + bit) % m = 2 * r + bit - m ∧ (2 * r + bit) / m = 1 := fun h => by
    have e : 2 * r + bit = m * 1 + (2 * r + bit - m) := by omega
    constructor
    · rw [Nat.mod_eq_sub_mod h, Nat.mod_eq_of_lt (by omega)]
    · rw [Nat.div_eq_sub_div (by omega) h, Nat.div_eq_of_lt (by omega)]
  by_cases h : 2 * r + bit < B
  · rw [Nat.mod_eq_of_lt h, hd 0 (by omega) (by omega)]
    by_cases k : m ≤ 2 * r + bit
    · obtain ⟨s1, s2⟩ := sub k
      refine .inr (.inl ⟨rfl, ?_, ?_, ?_⟩)
      · rw [xDo, if_neg (by omega)]
      · rw [s1, ← xHj, show 2 * r + bit + B - m = (2 * r + bit - m) + B by omega, Nat.add_mod_right, xHj]
      · rw [s2]; rfl
    · refine .inr (.inr ⟨rfl, ?_, ?_, ?_⟩)
      · rw [xDo, if_pos (by omega)]
      · rw [Nat.mod_eq_of_lt (by omega)]
      · rw [Nat.div_eq_of_lt (by omega)]; rfl
  · rw [hd 1 (by omega) (by omega)]
    obtain ⟨s1, s2⟩ := sub (by omega)
    refine .inl ⟨rfl, ?_, ?_⟩
    · rw [s1, Nat.mod_eq_sub_mod (by omega), Nat.mod_eq_of_lt (by omega), show 2 * r + bit - B + B - m = 2 * r + bit - m by omega]
    · rw [s2]; rfl
theorem next_any (r bit m : Nat) (hr : r < m) (hm : m < B) (hb : bit < 2) (w : World) : Calls Tryz.prog 230 #[num r, .int .u64 (bit : Int), num m] w fun e w' =>
  e = .returned (.tuple #[num ((2 * r + bit) % m), .int .u64 (((2 * r + bit) / m : Nat) : Int)]) ∧ Below w.heap.size w w' := by
 have hR := Rep.init w
 have hx := nl_bit r bit hb
 obtain ⟨X, hX, hXB, hc⟩ := next_cases r bit m hr hm hb
 rw [hX] at hx
 clear hX
 rcases hc with ⟨c1, c2, c3⟩ | ⟨c1, c2, c3, c4⟩ | ⟨c1, c2, c3, c4⟩
 ·rw [← c2, ← c3]
  clear c2 c3
  go_enter Tryz.func230, Tryz.ntmps230
  go_wp2_with (first | (refine' aAq hR ?_; clear hR; intro blk w hR) | (refine' aBq hR ?_; clear hR; intro blk w hR) | (refine' aEq hR ?_) | (refine' aGq hR ?_) | (refine' aFq hR ?_; clear hR; intro w hR) | (refine' aHq hR ?_; clear hR; intro w hR) | (go_at_call 203; refine (add_any r r (by omega) (by omega) _).mono ?_; rintro e w ⟨rfl, hb⟩; replace hR := hR.call hb; clear hb) | (go_at_call 204; refine (sub_any X m hXB hm _).mono ?_; rintro e w ⟨rfl, hb⟩; replace hR := hR.call hb; clear hb))
  (refine' bodyPost_ret (xAh Tryz.results230 rfl (hR.loadAll (P := Tryz.prog) (ty := 24) ?hm ?hn)) rfl ⟨?_, hR.below⟩; (case hm => first | with_reducible assumption | repeat (first | exact .head _ | apply mT)); (case hn => first | rfl | simp))
  rfl
 ·rw [← c3, ← c4]
  clear c3 c4
  go_enter Tryz.func230, Tryz.ntmps230
  go_wp2_with (first | (refine' aAq hR ?_; clear hR; intro blk w hR) | (refine' aBq hR ?_; clear hR; intro blk w hR) | (refine' aEq hR ?_) | (refine' aGq hR ?_) | (refine' aFq hR ?_; clear hR; intro w hR) | (refine' aHq hR ?_; clear hR; intro w hR) | (go_at_call 203; refine (add_any r r (by omega) (by omega) _).mono ?_; rintro e w ⟨rfl, hb⟩; replace hR := hR.call hb; clear hb) | (go_at_call 204; refine (sub_any X m hXB hm _).mono ?_; rintro e w ⟨rfl, hb⟩; replace hR := hR.call hb; clear hb))
  (refine' bodyPost_ret (xAh Tryz.results230 rfl (hR.loadAll (P := Tryz.prog) (ty := 24) ?hm ?hn)) rfl ⟨?_, hR.below⟩; (case hm => first | with_reducible assumption | repeat (first | exact .head _ | apply mT)); (case hn => first | rfl | simp))
  rfl
 ·rw [← c3, ← c4]
  clear c3 c4
  go_enter Tryz.func230, Tryz.ntmps230
  go_wp2_with (first | (refine' aAq hR ?_; clear hR; intro blk w hR) | (refine' aBq hR ?_; clear hR; intro blk w hR) | (refine' aEq hR ?_) | (refine' aGq hR ?_) | (refine' aFq hR ?_; clear hR; intro w hR) | (refine' aHq hR ?_; clear hR; intro w hR) | (go_at_call 203; refine (add_any r r (by omega) (by omega) _).mono ?_; rintro e w ⟨rfl, hb⟩; replace hR := hR.call hb; clear hb) | (go_at_call 204; refine (sub_any X m hXB hm _).mono ?_; rintro e w ⟨rfl, hb⟩; replace hR := hR.call hb; clear hb))
  (refine' bodyPost_ret (xAh Tryz.results230 rfl (hR.loadAll (P := Tryz.prog) (ty := 24) ?hm ?hn)) rfl ⟨?_, hR.below⟩; (case hm => first | with_reducible assumption | repeat (first | exact .head _ | apply mT)); (case hn => first | rfl | simp))
  try rw [hx]
  rfl
end
end Go.Proofs.YtaaahfjpnggkbaaGreatDoor
