/- The contracts of limbs.Bit, limbs.Bits. -/
import Derived.Test.YthbcgcncoggagaaVH
import Derived.Test.YthbcgcncoggagaaShelf
import Derived.Laws.Bits64b
set_option linter.unusedVariables false
set_option linter.unusedSimpArgs false
namespace Go.Proofs.Ythbcgcncoggagaa
open Go.RowKit
noncomputable def bitN : Nat → Int → Int := opq fun a i => if i < 0 ∨ 256 ≤ i then 0 else ((a / 2 ^ i.toNat % 2 : Nat) : Int)
theorem bitN_def (a : Nat) (i : Int) : bitN a i = if i < 0 ∨ 256 ≤ i then 0 else ((a / 2 ^ i.toNat % 2 : Nat) : Int) := by unfold bitN; rw [xCb]
theorem nl_at (a k : Nat) (h : k < 4) : (nl a)[k]? = some (.int .u64 (wd a k)) := by
  have : k = 0 ∨ k = 1 ∨ k = 2 ∨ k = 3 := by omega
  unfold nl
  rcases this with rfl | rfl | rfl | rfl <;> rfl
theorem pow64 (k : Nat) : 18446744073709551616 ^ k = 2 ^ (64 * k) := by rw [show 18446744073709551616 = 2 ^ 64 by decide, ← Nat.pow_mul]
theorem bits_and1 (x : Int) (h0 : 0 ≤ x) (h1 : x < 18446744073709551616) : bits .and .u64 x 1 = x % 2 := by
  obtain ⟨n, rfl⟩ := Int.eq_ofNat_of_zero_le h0
  have := bits_and_u64_nat n 1 (by omega) (by decide)
  rw [Nat.and_one_is_mod] at this
  rw [show ((1 : Nat) : Int) = 1 from rfl] at this
  rw [this]; omega
theorem bit_of_word (a j r : Nat) (hr : r < 64) : (w64 a j / 2 ^ r) % 2 = a / 2 ^ (64 * j + r) % 2 := by
  unfold w64
  rw [pow64, Nat.pow_add, ← Nat.div_div_eq_div_mul]
  generalize a / 2 ^ (64 * j) = x
  have e1 : (x % 18446744073709551616 / 2 ^ r) % 2 = if (x % 2 ^ 64).testBit r then 1 else 0 := by
    rw [Nat.testBit_eq_decide_div_mod_eq, show (2 : Nat) ^ 64 = 18446744073709551616 by decide]
    by_cases q : x % 18446744073709551616 / 2 ^ r % 2 = 1
    · simp [q]
    · simp [q]; omega
  have e2 : (x / 2 ^ r) % 2 = if x.testBit r then 1 else 0 := by
    rw [Nat.testBit_eq_decide_div_mod_eq]
    by_cases q : x / 2 ^ r % 2 = 1
    · simp [q]
    · simp [q]; omega
  rw [e1, e2, Nat.testBit_mod_two_pow]
  simp [hr]
theorem bit_plain (a : Nat) (i : Int) (h : ¬(i < 0 ∨ 256 ≤ i)) : bits .and .u64 (wd a (i / 64).toNat / 2 ^ (i % 64).toNat) 1 = bitN a i := by
  rw [bitN_def, if_neg h, wd_eq]
  obtain ⟨n, rfl⟩ := Int.eq_ofNat_of_zero_le (show 0 ≤ i by omega)
  have e1 : ((n : Int) / 64).toNat = n / 64 := by omega
  have e2 : ((n : Int) % 64).toNat = n % 64 := by omega
  rw [e1, e2, show (2 : Int) ^ (n % 64) = ((2 ^ (n % 64) : Nat) : Int) by simp, ← Int.natCast_ediv]
  have lt : w64 a (n / 64) / 2 ^ (n % 64) < 18446744073709551616 := Nat.lt_of_le_of_lt (Nat.div_le_self _ _) (w64_lt _ _)
  have := bit_of_word a (n / 64) (n % 64) (by omega)
  rw [show 64 * (n / 64) + n % 64 = n by omega] at this
  rw [Int.toNat_natCast, ← this]
  generalize w64 a (n / 64) / 2 ^ (n % 64) = q at lt ⊢
  rw [bits_and1 _ (by omega) (by omega)]
  omega
set_option maxRecDepth 100000 in
set_option maxHeartbeats 1000000 in
theorem bit_any (a : Nat) (i : Int) (ha : a < B) (w : World) : Calls Try.prog 87 #[num a, .int .i64 i] w fun e w' =>
    e = .returned (.int .u64 (bitN a i)) ∧ Below w.heap.size w w' := by
  have hR := Rep.init w
  by_cases h : i < 0 ∨ 256 ≤ i
  · have hb : bitN a i = 0 := by rw [bitN_def, if_pos h]
    rw [hb]
    go_enter Try.func87, Try.ntmps87
    go_wp2_with (first | (refine' xAe hR rfl rfl rfl ?_; clear hR; intro blk w hR) | (refine' xAb hR rfl rfl inferInstance ?_; clear hR; intro blk w hR) | (refine' xAc hR rfl rfl rfl inferInstance ?hm ?hn ?_; (case hm => first | with_reducible assumption | repeat (first | exact .head _ | apply mT)); (case hn => first | rfl | simp)) | (refine' xAd hR rfl rfl rfl inferInstance ?hm ?hv ?hn ?_; (case hm => first | with_reducible assumption | repeat (first | exact .head _ | apply mT)); (case hv => first | with_reducible assumption | (simp only [kC, kD, kE, kF]; try rfl)); (case hn => first | rfl | simp)) | (refine' xBg hR rfl rfl rfl inferInstance ?hm ?hv ?_; (case hm => first | with_reducible assumption | repeat (first | exact .head _ | apply mT)); (case hv => first | rfl | with_reducible assumption)) | (refine' xAa hR rfl rfl rfl inferInstance rfl ?hs ?zone ?zvn ?hn ?_; (case hs => repeat (first | exact xAf.head | apply xAf.tail)); (case zone => first | rfl | with_reducible assumption); (case zvn => first | rfl | simp); (case hn => first | rfl | simp); clear hR; intro w hR) | (refine' xBe hR rfl rfl rfl inferInstance rfl rfl ?hs ?hn ?hl ?_; (case hs => repeat (first | exact xAf.head | apply xAf.tail)); (case hn => first | exact oD rfl | (show _ < 4; with_reducible assumption) | (simp; try omega)); (case hl => first | with_reducible assumption | (simp only [nl, kA, kB]; first | done | rfl) | rfl); clear hR; intro w hR) | fail)
    all_goals first | (exfalso; omega; done) | skip
    all_goals go_ret
    all_goals exact ⟨rfl, hR.below⟩
  · have hv := nl_at a (i / 64).toNat (by omega)
    have l0 := wd_lo a (i / 64).toNat
    have l1 := wd_hi a (i / 64).toNat
    go_enter Try.func87, Try.ntmps87
    go_wp2_with (first | (refine' xAe hR rfl rfl rfl ?_; clear hR; intro blk w hR) | (refine' xAb hR rfl rfl inferInstance ?_; clear hR; intro blk w hR) | (refine' xAc hR rfl rfl rfl inferInstance ?hm ?hn ?_; (case hm => first | with_reducible assumption | repeat (first | exact .head _ | apply mT)); (case hn => first | rfl | simp)) | (refine' xAd hR rfl rfl rfl inferInstance ?hm ?hv ?hn ?_; (case hm => first | with_reducible assumption | repeat (first | exact .head _ | apply mT)); (case hv => first | with_reducible assumption | (simp only [kC, kD, kE, kF]; try rfl)); (case hn => first | rfl | simp)) | (refine' xBg hR rfl rfl rfl inferInstance ?hm ?hv ?_; (case hm => first | with_reducible assumption | repeat (first | exact .head _ | apply mT)); (case hv => first | rfl | with_reducible assumption)) | (refine' xAa hR rfl rfl rfl inferInstance rfl ?hs ?zone ?zvn ?hn ?_; (case hs => repeat (first | exact xAf.head | apply xAf.tail)); (case zone => first | rfl | with_reducible assumption); (case zvn => first | rfl | simp); (case hn => first | rfl | simp); clear hR; intro w hR) | (refine' xBe hR rfl rfl rfl inferInstance rfl rfl ?hs ?hn ?hl ?_; (case hs => repeat (first | exact xAf.head | apply xAf.tail)); (case hn => first | exact oD rfl | (show _ < 4; with_reducible assumption) | (simp; try omega)); (case hl => first | with_reducible assumption | (simp only [nl, kA, kB]; first | done | rfl) | rfl); clear hR; intro w hR) | fail)
    all_goals first | (exfalso; omega; done) | skip
    all_goals go_ret
    exact ⟨congrArg (fun x => Ending.returned (.int .u64 x)) (bit_plain a i h), hR.below⟩
theorem bitN_nat (a k : Nat) (h : k < 256) : bitN a k = ((a / 2 ^ k % 2 : Nat) : Int) := by
  rw [bitN_def, if_neg (by omega)]; rfl
noncomputable def blen : Nat → Nat := opq fun a => if a = 0 then 0 else a.log2 + 1
theorem blen_def (a : Nat) : blen a = if a = 0 then 0 else a.log2 + 1 := by unfold blen; rw [xCb]
theorem blen_lt (a : Nat) : a < 2 ^ blen a := by
  rw [blen_def]; split
  · omega
  · exact Nat.lt_log2_self
theorem blen_le {a : Nat} (h : a ≠ 0) : 2 ^ (blen a - 1) ≤ a := by
  rw [blen_def, if_neg h]; exact Nat.log2_self_le h
theorem blen_zero (a : Nat) : blen a = 0 ↔ a = 0 := by rw [blen_def]; split <;> omega
theorem blen_of {a k : Nat} (h1 : 2 ^ k ≤ a) (h2 : a < 2 ^ (k + 1)) : blen a = k + 1 := by
  have h0 : a ≠ 0 := by have := Nat.two_pow_pos k; omega
  rw [blen_def, if_neg h0]
  have := (Nat.log2_lt h0).mpr h2
  have := (Nat.le_log2 h0).mpr h1
  omega
theorem xBy (a k : Nat) : blen a ≤ k ↔ a < 2 ^ k := by
  constructor
  · intro h; exact Nat.lt_of_lt_of_le (blen_lt a) (Nat.pow_le_pow_right (by decide) h)
  · intro h
    by_cases h0 : a = 0
    · have := (blen_zero a).mpr h0; omega
    · have h1 := blen_le h0
      have := (Nat.pow_lt_pow_iff_right (a := 2) (by decide)).mp (Nat.lt_of_le_of_lt h1 h)
      omega
theorem bitLenAux_eq : ∀ (f x : Nat), x < 2 ^ f → Lib.bitLenAux f x = blen x
  | 0, x, h => by
    have : x = 0 := by simpa using h
    rw [this, (blen_zero 0).mpr rfl]; rfl
  | f + 1, x, h => by
    unfold Lib.bitLenAux
    by_cases h0 : x = 0
    · rw [if_pos h0, (blen_zero x).mpr h0]
    · rw [if_neg h0, bitLenAux_eq f (x / 2) (by rw [Nat.pow_succ] at h; omega)]
      by_cases h1 : x / 2 = 0
      · rw [(blen_zero _).mpr h1, blen_of (k := 0) (by omega) (by omega)]
      · have l1 := blen_le h1
        have l2 := blen_lt (x / 2)
        have p : blen (x / 2) ≠ 0 := fun e => h1 ((blen_zero _).mp e)
        obtain ⟨k, hk⟩ : ∃ k, blen (x / 2) = k + 1 := ⟨blen (x / 2) - 1, by omega⟩
        rw [hk] at l1 l2 ⊢
        rw [blen_of (a := x) (k := k + 1) (by rw [Nat.pow_succ]; simp at l1; omega) (by rw [Nat.pow_succ]; omega)]
        omega
theorem bitLen_eq (x : Nat) (h : x < 18446744073709551616) : Lib.bitLen x = blen x := bitLenAux_eq 64 x h
theorem blen_word (a j : Nat) (hj : j < 4) (h : w64 a j ≠ 0) (hz : a / 2 ^ (64 * (j + 1)) = 0) : blen a = 64 * j + blen (w64 a j) := by
  have p : blen (w64 a j) ≠ 0 := fun e => h ((blen_zero _).mp e)
  have l1 := blen_le h
  have l2 := blen_lt (w64 a j)
  obtain ⟨k, hk⟩ : ∃ k, blen (w64 a j) = k + 1 := ⟨blen (w64 a j) - 1, by omega⟩
  rw [hk] at l1 l2 ⊢
  have e : w64 a j = a / 2 ^ (64 * j) := by
    unfold w64
    rw [pow64]
    apply Nat.mod_eq_of_lt
    rw [show 64 * (j + 1) = 64 * j + 64 by omega, Nat.pow_add, ← Nat.div_div_eq_div_mul, Nat.div_eq_zero_iff] at hz
    rcases hz with hz | hz
    · exact absurd hz (by decide)
    · exact hz
  rw [e] at l1 l2
  rw [show 64 * j + (k + 1) = (64 * j + k) + 1 by omega]
  apply blen_of
  · rw [Nat.pow_add, Nat.mul_comm]
    simp at l1
    exact (Nat.le_div_iff_mul_le (Nat.two_pow_pos _)).mp l1
  · rw [show 64 * j + k + 1 = 64 * j + (k + 1) by omega, Nat.pow_add, Nat.mul_comm]
    exact (Nat.div_lt_iff_lt_mul (Nat.two_pow_pos _)).mp l2
theorem Calls.below {P : Program} {f : Nat} {args : Array Value} {w : World} {v : Value} (h : Calls P f args w fun e w' => e = .returned v ∧ w' = w) :
    Calls P f args w fun e w' => e = .returned v ∧ Below w.heap.size w w' := h.mono fun e w' ⟨h1, h2⟩ => ⟨h1, by rw [h2]; exact Below.refl _ _⟩
theorem len_word (a j : Nat) (w : World) : Calls Try.prog 82 #[.int .u64 (wd a j)] w fun e w' =>
    e = .returned (.int .i64 ((blen (w64 a j) : Nat) : Int)) ∧ Below w.heap.size w w' := by
  have h := Try.bits_Len64 (wd a j) w (wd_lo _ _) (by have := wd_hi a j; omega)
  rw [wd_eq] at h ⊢
  rw [Int.toNat_natCast, bitLen_eq _ (w64_lt _ _)] at h
  exact Calls.below h
theorem blen_w64 (a j : Nat) : blen (w64 a j) ≤ 64 := (xBy _ _).mpr (w64_lt a j)
theorem bits_3 (a : Nat) (ha : a < B) (h : 0 < wd a 3) : ((blen (w64 a 3) : Nat) : Int) + 192 = blen a := by
  rw [wd_eq] at h
  rw [blen_word a 3 (by decide) (by omega) (Nat.div_eq_of_lt (by rw [B_eq] at ha; exact ha))]; omega
theorem bits_2 (a : Nat) (ha : a < B) (k3 : ¬ 0 < wd a 3) (h : 0 < wd a 2) : ((blen (w64 a 2) : Nat) : Int) + 128 = blen a := by
  rw [wd_eq] at h k3
  have := ofW_w64 a
  rw [Nat.mod_eq_of_lt ha, show w64 a 3 = 0 by omega] at this
  have l0 := w64_lt a 0; have l1 := w64_lt a 1; have l2 := w64_lt a 2
  unfold ofW at this
  rw [blen_word a 2 (by decide) (by omega) (Nat.div_eq_of_lt (by omega))]; omega
theorem bits_1 (a : Nat) (ha : a < B) (k3 : ¬ 0 < wd a 3) (k2 : ¬ 0 < wd a 2) (h : 0 < wd a 1) : ((blen (w64 a 1) : Nat) : Int) + 64 = blen a := by
  rw [wd_eq] at h k3 k2
  have := ofW_w64 a
  rw [Nat.mod_eq_of_lt ha, show w64 a 3 = 0 by omega, show w64 a 2 = 0 by omega] at this
  have l0 := w64_lt a 0; have l1 := w64_lt a 1
  unfold ofW at this
  rw [blen_word a 1 (by decide) (by omega) (Nat.div_eq_of_lt (by omega))]; omega
theorem bits_0 (a : Nat) (ha : a < B) (k3 : ¬ 0 < wd a 3) (k2 : ¬ 0 < wd a 2) (k1 : ¬ 0 < wd a 1) (h : 0 < wd a 0) : ((blen (w64 a 0) : Nat) : Int) = blen a := by
  rw [wd_eq] at h k3 k2 k1
  have := ofW_w64 a
  rw [Nat.mod_eq_of_lt ha, show w64 a 3 = 0 by omega, show w64 a 2 = 0 by omega, show w64 a 1 = 0 by omega] at this
  have l0 := w64_lt a 0
  unfold ofW at this
  rw [blen_word a 0 (by decide) (by omega) (Nat.div_eq_of_lt (by omega))]; omega
theorem bits_n (a : Nat) (ha : a < B) (k3 : ¬ 0 < wd a 3) (k2 : ¬ 0 < wd a 2) (k1 : ¬ 0 < wd a 1) (h : ¬ 0 < wd a 0) : (0 : Int) = blen a := by
  rw [wd_eq] at h k3 k2 k1
  have := ofW_w64 a
  rw [Nat.mod_eq_of_lt ha, show w64 a 3 = 0 by omega, show w64 a 2 = 0 by omega, show w64 a 1 = 0 by omega] at this
  unfold ofW at this
  have := (blen_zero a).mpr (by omega)
  omega
set_option maxRecDepth 100000 in
set_option maxHeartbeats 1000000 in
theorem bits_any (a : Nat) (ha : a < B) (w : World) : Calls Try.prog 34 #[num a] w fun e w' =>
    e = .returned (.int .i64 (blen a : Int)) ∧ Below w.heap.size w w' := by
  have hR := Rep.init w
  have a0 := wd_lo a 0; have a1 := wd_lo a 1; have a2 := wd_lo a 2; have a3 := wd_lo a 3
  have b0 := wd_hi a 0; have b1 := wd_hi a 1; have b2 := wd_hi a 2; have b3 := wd_hi a 3
  have c0 := blen_w64 a 0; have c1 := blen_w64 a 1; have c2 := blen_w64 a 2; have c3 := blen_w64 a 3
  go_enter Try.func34, Try.ntmps34
  go_wp2_with (first | (refine' xAe hR rfl rfl rfl ?_; clear hR; intro blk w hR) | (refine' xAb hR rfl rfl inferInstance ?_; clear hR; intro blk w hR) | (refine' xAc hR rfl rfl rfl inferInstance ?hm ?hn ?_; (case hm => first | with_reducible assumption | repeat (first | exact .head _ | apply mT)); (case hn => first | rfl | simp)) | (refine' xAd hR rfl rfl rfl inferInstance ?hm ?hv ?hn ?_; (case hm => first | with_reducible assumption | repeat (first | exact .head _ | apply mT)); (case hv => first | with_reducible assumption | (simp only [kC, kD, kE, kF]; try rfl)); (case hn => first | rfl | simp)) | (refine' xBg hR rfl rfl rfl inferInstance ?hm ?hv ?_; (case hm => first | with_reducible assumption | repeat (first | exact .head _ | apply mT)); (case hv => first | rfl | with_reducible assumption)) | (refine' xAa hR rfl rfl rfl inferInstance rfl ?hs ?zone ?zvn ?hn ?_; (case hs => repeat (first | exact xAf.head | apply xAf.tail)); (case zone => first | rfl | with_reducible assumption); (case zvn => first | rfl | simp); (case hn => first | rfl | simp); clear hR; intro w hR) | (refine' xBe hR rfl rfl rfl inferInstance rfl rfl ?hs ?hn ?hl ?_; (case hs => repeat (first | exact xAf.head | apply xAf.tail)); (case hn => first | exact oD rfl | (show _ < 4; with_reducible assumption) | (simp; try omega)); (case hl => first | with_reducible assumption | (simp only [nl, kA, kB]; first | done | rfl) | rfl); clear hR; intro w hR) | fail)
  refine wp_loop_rounds 5 ?_
  rw [rounds_succ]
  go_wp2_with (first | (refine' xAe hR rfl rfl rfl ?_; clear hR; intro blk w hR) | (refine' xAb hR rfl rfl inferInstance ?_; clear hR; intro blk w hR) | (refine' xAc hR rfl rfl rfl inferInstance ?hm ?hn ?_; (case hm => first | with_reducible assumption | repeat (first | exact .head _ | apply mT)); (case hn => first | rfl | simp)) | (refine' xAd hR rfl rfl rfl inferInstance ?hm ?hv ?hn ?_; (case hm => first | with_reducible assumption | repeat (first | exact .head _ | apply mT)); (case hv => first | with_reducible assumption | (simp only [kC, kD, kE, kF]; try rfl)); (case hn => first | rfl | simp)) | (refine' xBg hR rfl rfl rfl inferInstance ?hm ?hv ?_; (case hm => first | with_reducible assumption | repeat (first | exact .head _ | apply mT)); (case hv => first | rfl | with_reducible assumption)) | (refine' xAa hR rfl rfl rfl inferInstance rfl ?hs ?zone ?zvn ?hn ?_; (case hs => repeat (first | exact xAf.head | apply xAf.tail)); (case zone => first | rfl | with_reducible assumption); (case zvn => first | rfl | simp); (case hn => first | rfl | simp); clear hR; intro w hR) | (refine' xBe hR rfl rfl rfl inferInstance rfl rfl ?hs ?hn ?hl ?_; (case hs => repeat (first | exact xAf.head | apply xAf.tail)); (case hn => first | exact oD rfl | (show _ < 4; with_reducible assumption) | (simp; try omega)); (case hl => first | with_reducible assumption | (simp only [nl, kA, kB]; first | done | rfl) | rfl); clear hR; intro w hR) | (go_at_call 82; refine (len_word a 3 _).mono ?_; rintro e w ⟨rfl, hb⟩; replace hR := hR.call hb; clear hb))
  · go_ret
    exact ⟨congrArg (fun x => Ending.returned (.int .i64 x)) (by have := bits_3 a ha (by assumption); first | omega | (go_simp; done) | (go_simp; omega)), hR.below⟩
  rw [rounds_succ]
  go_wp2_with (first | (refine' xAe hR rfl rfl rfl ?_; clear hR; intro blk w hR) | (refine' xAb hR rfl rfl inferInstance ?_; clear hR; intro blk w hR) | (refine' xAc hR rfl rfl rfl inferInstance ?hm ?hn ?_; (case hm => first | with_reducible assumption | repeat (first | exact .head _ | apply mT)); (case hn => first | rfl | simp)) | (refine' xAd hR rfl rfl rfl inferInstance ?hm ?hv ?hn ?_; (case hm => first | with_reducible assumption | repeat (first | exact .head _ | apply mT)); (case hv => first | with_reducible assumption | (simp only [kC, kD, kE, kF]; try rfl)); (case hn => first | rfl | simp)) | (refine' xBg hR rfl rfl rfl inferInstance ?hm ?hv ?_; (case hm => first | with_reducible assumption | repeat (first | exact .head _ | apply mT)); (case hv => first | rfl | with_reducible assumption)) | (refine' xAa hR rfl rfl rfl inferInstance rfl ?hs ?zone ?zvn ?hn ?_; (case hs => repeat (first | exact xAf.head | apply xAf.tail)); (case zone => first | rfl | with_reducible assumption); (case zvn => first | rfl | simp); (case hn => first | rfl | simp); clear hR; intro w hR) | (refine' xBe hR rfl rfl rfl inferInstance rfl rfl ?hs ?hn ?hl ?_; (case hs => repeat (first | exact xAf.head | apply xAf.tail)); (case hn => first | exact oD rfl | (show _ < 4; with_reducible assumption) | (simp; try omega)); (case hl => first | with_reducible assumption | (simp only [nl, kA, kB]; first | done | rfl) | rfl); clear hR; intro w hR) | (go_at_call 82; refine (len_word a 2 _).mono ?_; rintro e w ⟨rfl, hb⟩; replace hR := hR.call hb; clear hb))
  · go_ret
    exact ⟨congrArg (fun x => Ending.returned (.int .i64 x)) (by have := bits_2 a ha (by omega) (by assumption); first | omega | (go_simp; done) | (go_simp; omega)), hR.below⟩
  rw [rounds_succ]
  go_wp2_with (first | (refine' xAe hR rfl rfl rfl ?_; clear hR; intro blk w hR) | (refine' xAb hR rfl rfl inferInstance ?_; clear hR; intro blk w hR) | (refine' xAc hR rfl rfl rfl inferInstance ?hm ?hn ?_; (case hm => first | with_reducible assumption | repeat (first | exact .head _ | apply mT)); (case hn => first | rfl | simp)) | (refine' xAd hR rfl rfl rfl inferInstance ?hm ?hv ?hn ?_; (case hm => first | with_reducible assumption | repeat (first | exact .head _ | apply mT)); (case hv => first | with_reducible assumption | (simp only [kC, kD, kE, kF]; try rfl)); (case hn => first | rfl | simp)) | (refine' xBg hR rfl rfl rfl inferInstance ?hm ?hv ?_; (case hm => first | with_reducible assumption | repeat (first | exact .head _ | apply mT)); (case hv => first | rfl | with_reducible assumption)) | (refine' xAa hR rfl rfl rfl inferInstance rfl ?hs ?zone ?zvn ?hn ?_; (case hs => repeat (first | exact xAf.head | apply xAf.tail)); (case zone => first | rfl | with_reducible assumption); (case zvn => first | rfl | simp); (case hn => first | rfl | simp); clear hR; intro w hR) | (refine' xBe hR rfl rfl rfl inferInstance rfl rfl ?hs ?hn ?hl ?_; (case hs => repeat (first | exact xAf.head | apply xAf.tail)); (case hn => first | exact oD rfl | (show _ < 4; with_reducible assumption) | (simp; try omega)); (case hl => first | with_reducible assumption | (simp only [nl, kA, kB]; first | done | rfl) | rfl); clear hR; intro w hR) | (go_at_call 82; refine (len_word a 1 _).mono ?_; rintro e w ⟨rfl, hb⟩; replace hR := hR.call hb; clear hb))
  · go_ret
    exact ⟨congrArg (fun x => Ending.returned (.int .i64 x)) (by have := bits_1 a ha (by omega) (by omega) (by assumption); first | omega | (go_simp; done) | (go_simp; omega)), hR.below⟩
  rw [rounds_succ]
  go_wp2_with (first | (refine' xAe hR rfl rfl rfl ?_; clear hR; intro blk w hR) | (refine' xAb hR rfl rfl inferInstance ?_; clear hR; intro blk w hR) | (refine' xAc hR rfl rfl rfl inferInstance ?hm ?hn ?_; (case hm => first | with_reducible assumption | repeat (first | exact .head _ | apply mT)); (case hn => first | rfl | simp)) | (refine' xAd hR rfl rfl rfl inferInstance ?hm ?hv ?hn ?_; (case hm => first | with_reducible assumption | repeat (first | exact .head _ | apply mT)); (case hv => first | with_reducible assumption | (simp only [kC, kD, kE, kF]; try rfl)); (case hn => first | rfl | simp)) | (refine' xBg hR rfl rfl rfl inferInstance ?hm ?hv ?_; (case hm => first | with_reducible assumption | repeat (first | exact .head _ | apply mT)); (case hv => first | rfl | with_reducible assumption)) | (refine' xAa hR rfl rfl rfl inferInstance rfl ?hs ?zone ?zvn ?hn ?_; (case hs => repeat (first | exact xAf.head | apply xAf.tail)); (case zone => first | rfl | with_reducible assumption); (case zvn => first | rfl | simp); (case hn => first | rfl | simp); clear hR; intro w hR) | (refine' xBe hR rfl rfl rfl inferInstance rfl rfl ?hs ?hn ?hl ?_; (case hs => repeat (first | exact xAf.head | apply xAf.tail)); (case hn => first | exact oD rfl | (show _ < 4; with_reducible assumption) | (simp; try omega)); (case hl => first | with_reducible assumption | (simp only [nl, kA, kB]; first | done | rfl) | rfl); clear hR; intro w hR) | (go_at_call 82; refine (len_word a 0 _).mono ?_; rintro e w ⟨rfl, hb⟩; replace hR := hR.call hb; clear hb))
  · go_ret
    exact ⟨congrArg (fun x => Ending.returned (.int .i64 x)) (by have := bits_0 a ha (by omega) (by omega) (by omega) (by assumption); first | omega | (go_simp; done) | (go_simp; omega)), hR.below⟩
  rw [rounds_succ]
  go_wp2_with (first | (refine' xAe hR rfl rfl rfl ?_; clear hR; intro blk w hR) | (refine' xAb hR rfl rfl inferInstance ?_; clear hR; intro blk w hR) | (refine' xAc hR rfl rfl rfl inferInstance ?hm ?hn ?_; (case hm => first | with_reducible assumption | repeat (first | exact .head _ | apply mT)); (case hn => first | rfl | simp)) | (refine' xAd hR rfl rfl rfl inferInstance ?hm ?hv ?hn ?_; (case hm => first | with_reducible assumption | repeat (first | exact .head _ | apply mT)); (case hv => first | with_reducible assumption | (simp only [kC, kD, kE, kF]; try rfl)); (case hn => first | rfl | simp)) | (refine' xBg hR rfl rfl rfl inferInstance ?hm ?hv ?_; (case hm => first | with_reducible assumption | repeat (first | exact .head _ | apply mT)); (case hv => first | rfl | with_reducible assumption)) | (refine' xAa hR rfl rfl rfl inferInstance rfl ?hs ?zone ?zvn ?hn ?_; (case hs => repeat (first | exact xAf.head | apply xAf.tail)); (case zone => first | rfl | with_reducible assumption); (case zvn => first | rfl | simp); (case hn => first | rfl | simp); clear hR; intro w hR) | (refine' xBe hR rfl rfl rfl inferInstance rfl rfl ?hs ?hn ?hl ?_; (case hs => repeat (first | exact xAf.head | apply xAf.tail)); (case hn => first | exact oD rfl | (show _ < 4; with_reducible assumption) | (simp; try omega)); (case hl => first | with_reducible assumption | (simp only [nl, kA, kB]; first | done | rfl) | rfl); clear hR; intro w hR) | fail)
  go_ret
  exact ⟨congrArg (fun x => Ending.returned (.int .i64 x)) (bits_n a ha (by omega) (by omega) (by omega) (by omega)), hR.below⟩
end Go.Proofs.Ythbcgcncoggagaa
