/- Shifted numbers, word by word: the plain part. -/
import Derived.Test.YtlkjbkdnfmbcnaaZI
import Derived.Test.YtlkjbkdnfmbcnaaZA
set_option linter.unusedSimpArgs false
set_option linter.unusedVariables false
namespace Go.Proofs.Ytlkjbkdnfmbcnaa
open Go.RowKit

/-- A number, shifted to the left (s above 0) or to the right. -/
noncomputable def shN : Nat → Int → Nat := opq fun a s => if s ≤ -256 ∨ 256 ≤ s then 0 else if 0 ≤ s then a * 2 ^ s.toNat % B else a / 2 ^ (-s).toNat
theorem shN_def (a : Nat) (s : Int) : shN a s = if s ≤ -256 ∨ 256 ≤ s then 0 else if 0 ≤ s then a * 2 ^ s.toNat % B else a / 2 ^ (-s).toNat := by unfold shN; rw [opq_eq]
theorem shN_lt {a : Nat} (ha : a < B) (s : Int) : shN a s < B := by
  rw [shN_def]
  split
  · exact B_pos
  · split
    · exact Nat.mod_lt _ B_pos
    · exact Nat.lt_of_le_of_lt (Nat.div_le_self _ _) ha
theorem w64_zero {a k : Nat} (ha : a < B) (hk : 4 ≤ k) : w64 a k = 0 := by
  unfold w64
  rw [pow64, Nat.div_eq_of_lt]
  exact Nat.lt_of_lt_of_le ha (by rw [B_eq]; exact Nat.le_trans (by decide : _ ≤ 2 ^ (64 * 4)) (Nat.pow_le_pow_right (by decide) (by omega)))
/-- One word of a number that is moved by less than a word. -/
theorem word_shift (a k r : Nat) (hr : r < 64) : a * 2 ^ r / 2 ^ (64 * k) % 2 ^ 64 = (w64 a k * 2 ^ r % 2 ^ 64) ||| (if k = 0 then 0 else w64 a (k - 1) / 2 ^ (64 - r)) := by
  have hh := Nat.div_add_mod a (2 ^ (64 * k))
  obtain ⟨h, eh⟩ : ∃ h, a / 2 ^ (64 * k) = h := ⟨_, rfl⟩
  obtain ⟨l, el⟩ : ∃ l, a % 2 ^ (64 * k) = l := ⟨_, rfl⟩
  have ll : l < 2 ^ (64 * k) := by rw [← el]; exact Nat.mod_lt _ (Nat.two_pow_pos _)
  rw [eh, el] at hh
  have e1 : a * 2 ^ r / 2 ^ (64 * k) = h * 2 ^ r + l * 2 ^ r / 2 ^ (64 * k) := by
    rw [← hh, Nat.add_mul, Nat.mul_assoc, Nat.mul_add_div (Nat.two_pow_pos _)]
  have e2 : w64 a k * 2 ^ r % 2 ^ 64 = h * 2 ^ r % 2 ^ 64 := by
    unfold w64
    rw [pow64, eh, show (18446744073709551616 : Nat) = 2 ^ 64 from rfl, Nat.mod_mul_mod]
  have e3 : l * 2 ^ r / 2 ^ (64 * k) = if k = 0 then 0 else w64 a (k - 1) / 2 ^ (64 - r) := by
    by_cases k0 : k = 0
    · rw [if_pos k0]
      subst k0
      have : l = 0 := by simpa using ll
      rw [this]; simp
    · rw [if_neg k0]
      obtain ⟨j, rfl⟩ : ∃ j, k = j + 1 := ⟨k - 1, by omega⟩
      have p : 2 ^ (64 * (j + 1)) = 2 ^ r * (2 ^ (64 * j) * 2 ^ (64 - r)) := by
        rw [← Nat.pow_add, ← Nat.pow_add, show r + (64 * j + (64 - r)) = 64 * (j + 1) by omega]
      rw [p, Nat.mul_comm l, Nat.mul_div_mul_left _ _ (Nat.two_pow_pos _), ← Nat.div_div_eq_div_mul]
      have q : l / 2 ^ (64 * j) = w64 a j := by
        unfold w64
        rw [pow64, ← el, show (18446744073709551616 : Nat) = 2 ^ 64 from rfl, show 64 * (j + 1) = 64 * j + 64 by omega, Nat.pow_add, Nat.mod_mul_right_div_self]
      rw [q, Nat.add_sub_cancel]
  have e4 : (if k = 0 then 0 else w64 a (k - 1) / 2 ^ (64 - r)) < 2 ^ r := by
    split
    · exact Nat.two_pow_pos _
    · rw [Nat.div_lt_iff_lt_mul (Nat.two_pow_pos _), ← Nat.pow_add, show r + (64 - r) = 64 by omega]
      exact w64_lt _ _
  rw [e1, e2, e3]
  generalize (if k = 0 then 0 else w64 a (k - 1) / 2 ^ (64 - r)) = y at *
  obtain ⟨g, hg⟩ : 2 ^ r ∣ 2 ^ 64 := Nat.pow_dvd_pow 2 (by omega)
  have m1 : h * 2 ^ r % 2 ^ 64 = 2 ^ r * (h % g) := by rw [hg, Nat.mul_comm h, Nat.mul_mod_mul_left]
  have m2 : (h * 2 ^ r + y) % 2 ^ 64 = 2 ^ r * (h % g) + y := by
    rw [Nat.mul_comm h, hg, Nat.mod_mul, Nat.mul_add_div (Nat.two_pow_pos _), Nat.div_eq_of_lt e4, Nat.mul_add_mod, Nat.mod_eq_of_lt e4, Nat.add_zero]
    exact Nat.add_comm _ _
  rw [m1, m2, Nat.two_pow_add_eq_or_of_lt e4]
/-- A word of the shifted number, told by the words behind it. -/
theorem w64_shN {a : Nat} (ha : a < B) {s : Int} (h1 : -256 < s) (h2 : s < 256) {i : Nat} (hi : i < 4) {w : Int} {r : Nat} (hr : r < 64) (hs : s = 64 * w + r) :
    w64 (shN a s) i = if (i : Int) < w then 0 else (w64 a ((i : Int) - w).toNat * 2 ^ r % 2 ^ 64) ||| (if ((i : Int) - w).toNat = 0 then 0 else w64 a (((i : Int) - w).toNat - 1) / 2 ^ (64 - r)) := by
  rw [shN_def, if_neg (by omega)]
  by_cases h0 : 0 ≤ s
  · rw [if_pos h0]
    obtain ⟨v, rfl⟩ := Int.eq_ofNat_of_zero_le (show 0 ≤ w by omega)
    have es : s.toNat = 64 * v + r := by omega
    rw [es]
    have eB : w64 (a * 2 ^ (64 * v + r) % B) i = a * 2 ^ (64 * v + r) / 2 ^ (64 * i) % 2 ^ 64 := by
      unfold w64
      rw [pow64, show B = 2 ^ (64 * i) * 2 ^ (256 - 64 * i) by rw [← Nat.pow_add, show 64 * i + (256 - 64 * i) = 256 by omega, B_eq], Nat.mod_mul_right_div_self]
      rw [show (18446744073709551616 : Nat) = 2 ^ 64 from rfl]
      exact Nat.mod_mod_of_dvd _ (Nat.pow_dvd_pow 2 (by omega))
    rw [eB]
    by_cases hv : (i : Int) < (v : Int)
    · rw [if_pos hv]
      have : 64 * v + r = 64 * i + (64 + (64 * (v - i - 1) + r)) := by omega
      rw [this, Nat.pow_add, Nat.mul_left_comm, Nat.mul_div_cancel_left _ (Nat.two_pow_pos _), Nat.pow_add, Nat.mul_left_comm]
      exact Nat.mul_mod_right _ _
    · rw [if_neg hv, ← word_shift a _ r hr]
      have e : ((i : Int) - (v : Int)).toNat = i - v := by omega
      rw [e]
      have : 64 * i = 64 * v + 64 * (i - v) := by omega
      rw [this, Nat.pow_add, Nat.pow_add, Nat.mul_left_comm, Nat.mul_div_mul_left _ _ (Nat.two_pow_pos _)]
  · rw [if_neg h0, if_neg (by omega), ← word_shift a _ r hr]
    unfold w64
    rw [pow64, Nat.div_div_eq_div_mul, ← Nat.pow_add, show (18446744073709551616 : Nat) = 2 ^ 64 from rfl]
    have e : 64 * ((i : Int) - w).toNat = ((-s).toNat + 64 * i) + r := by omega
    rw [e, Nat.pow_add _ _ r, Nat.mul_div_mul_right _ _ (Nat.two_pow_pos _), Nat.pow_add]

/-- The words that are done. -/
noncomputable def part : Nat → Nat → List Value := opq fun N i => [.int .u64 (if 0 < i then wd N 0 else 0), .int .u64 (if 1 < i then wd N 1 else 0), .int .u64 (if 2 < i then wd N 2 else 0), .int .u64 (if 3 < i then wd N 3 else 0)]
theorem part_def (N i : Nat) : part N i = [.int .u64 (if 0 < i then wd N 0 else 0), .int .u64 (if 1 < i then wd N 1 else 0), .int .u64 (if 2 < i then wd N 2 else 0), .int .u64 (if 3 < i then wd N 3 else 0)] := by unfold part; rw [opq_eq]
theorem part_len (N i : Nat) : (part N i).length = 4 := by rw [part_def]; rfl
theorem part_zero (N : Nat) : part N 0 = nl 0 := by rw [part_def, ← nl_zero]; rfl
theorem part_all (N : Nat) : part N 4 = nl N := by rw [part_def]; rfl
theorem part_at (N i : Nat) (hi : i < 4) : (part N i)[i]? = some (.int .u64 0) := by
  rw [part_def]
  have : i = 0 ∨ i = 1 ∨ i = 2 ∨ i = 3 := by omega
  rcases this with rfl | rfl | rfl | rfl <;> rfl
theorem part_set (N i : Nat) (hi : i < 4) : (part N i).set i (.int .u64 (wd N i)) = part N (i + 1) := by
  rw [part_def, part_def]
  have : i = 0 ∨ i = 1 ∨ i = 2 ∨ i = 3 := by omega
  rcases this with rfl | rfl | rfl | rfl <;> rfl
theorem part_same (N i : Nat) (hi : i < 4) (h : wd N i = 0) : part N i = part N (i + 1) := by
  rw [part_def, part_def]
  have : i = 0 ∨ i = 1 ∨ i = 2 ∨ i = 3 := by omega
  rcases this with rfl | rfl | rfl | rfl <;> simp [h]
end Go.Proofs.Ytlkjbkdnfmbcnaa
/- The contract of limbs.Shift. -/
set_option linter.unusedSimpArgs false
set_option linter.unusedVariables false
namespace Go.Proofs.Ytlkjbkdnfmbcnaa
open Go.RowKit
attribute [local irreducible] Calls

theorem or_zero_word (x : Nat) (hx : x < 18446744073709551616) : bits .or .u64 0 (x : Int) = (x : Int) := by
  have := bits_or_u64_nat 0 x (by decide) hx
  rw [Nat.zero_or] at this
  exact this

theorem shl_word (a y r : Nat) : IntKind.u64.wrap (wd a y * 2 ^ r) = ((w64 a y * 2 ^ r % 2 ^ 64 : Nat) : Int) := by
  rw [IntKind.wrap_u64, wd_eq, show (w64 a y : Int) * 2 ^ r = ((w64 a y * 2 ^ r : Nat) : Int) by simp]
  generalize w64 a y * 2 ^ r = n
  omega
theorem shr_word (a u t : Nat) : wd a u / 2 ^ t = ((w64 a u / 2 ^ t : Nat) : Int) := by
  rw [wd_eq]; simp
theorem m64_lt (n : Nat) : n % 2 ^ 64 < 18446744073709551616 := Nat.mod_lt _ (by decide)

set_option maxRecDepth 100000 in
set_option maxHeartbeats 4000000 in
theorem shift_in (a : Nat) (s : Int) (ha : a < B) (h1 : -256 < s) (h2 : s < 256) (w : World) : Calls Try.prog 20 #[num a, .int .i64 s] w fun e w' =>
    e = .returned (num (shN a s)) ∧ Below w.heap.size w w' := by
  have f1 : decide (s ≤ -256) = false := decide_eq_false (by omega)
  have f2 : decide (256 ≤ s) = false := decide_eq_false (by omega)
  obtain ⟨v, r, hr, hs, hcase⟩ : ∃ (v : Int) (r : Nat), r < 64 ∧ s = 64 * v + r ∧ ((0 ≤ s ∧ s.tdiv 64 = v ∧ s.tmod 64 = r ∧ s / 64 = v ∧ s % 64 = r) ∨ (s < 0 ∧ s.tdiv 64 = v ∧ s.tmod 64 = r) ∨ (s < 0 ∧ s.tdiv 64 - 1 = v ∧ s.tmod 64 + 64 = r ∧ s.tmod 64 < 0)) := by
    refine ⟨s / 64, (s % 64).toNat, by omega, by omega, ?_⟩
    have t := Int.mul_tdiv_add_tmod s 64
    by_cases h0 : 0 ≤ s
    · left
      refine ⟨h0, Int.tdiv_eq_ediv_of_nonneg h0, ?_, rfl, by omega⟩
      rw [Int.tmod_eq_emod_of_nonneg h0]; omega
    · right
      have b1 := Int.lt_tmod_of_pos s (show (0 : Int) < 64 by decide)
      have b2 : s.tmod 64 ≤ 0 := by
        have h3 := Int.tmod_nonneg (a := -s) 64 (by omega)
        rw [Int.neg_tmod] at h3
        omega
      generalize s.tdiv 64 = q at *
      generalize s.tmod 64 = m at *
      by_cases m0 : m = 0
      · exact .inl ⟨by omega, by omega, by omega⟩
      · exact .inr ⟨by omega, by omega, by omega, by omega⟩
  obtain ⟨N, hN⟩ : ∃ N, shN a s = N := ⟨_, rfl⟩
  have key : ∀ i, i < 4 → wd N i = ((if (i : Int) < v then 0 else (w64 a ((i : Int) - v).toNat * 2 ^ r % 2 ^ 64) ||| (if ((i : Int) - v).toNat = 0 then 0 else w64 a (((i : Int) - v).toNat - 1) / 2 ^ (64 - r)) : Nat) : Int) := fun i hi => by
    rw [wd_eq, ← hN, w64_shN ha h1 h2 hi hr hs]
  rw [hN]
  have bv0 : -4 ≤ v := by omega
  have bv1 : v < 4 := by omega
  have br0 : 0 ≤ (r : Int) := by omega
  have br1 : (r : Int) < 64 := by omega
  have wv : IntKind.i64.wrap v = v := by rw [IntKind.wrap_i64]; omega
  have wr : IntKind.i64.wrap (r : Int) = (r : Int) := by rw [IntKind.wrap_i64]; omega
  replace key := Held.mk key
  clear hN hs
  have hR := Rep.init w
  rcases hcase with ⟨h0, e1, e2, e3, e4⟩ | ⟨h0, e1, e2⟩ | ⟨h0, e1, e2, e3⟩
  all_goals
    go_enter Try.func20, Try.ntmps20
    go_wp2_with (first | (refine' wpList_boxRep hR rfl rfl rfl ?_; clear hR; intro blk w hR) | (refine' wpList_allocRep hR rfl rfl inferInstance ?_; clear hR; intro blk w hR) | (refine' wpList_loadAll hR rfl rfl rfl inferInstance ?hm ?hn ?_; (case hm => first | with_reducible assumption | repeat (first | exact .head _ | apply List.Mem.tail)); (case hn => first | rfl | (simp; done))) | (refine' wpList_loadRow hR rfl rfl rfl inferInstance ?hm ?hv ?hn ?_; (case hm => first | with_reducible assumption | repeat (first | exact .head _ | apply List.Mem.tail)); (case hv => first | with_reducible assumption | (simp only [kC, kD, kE, kF]; first | done | rfl)); (case hn => first | rfl | (simp; done))) | (refine' wpList_loadCell hR rfl rfl rfl inferInstance ?hm ?hv ?_; (case hm => first | with_reducible assumption | repeat (first | exact .head _ | apply List.Mem.tail)); (case hv => first | rfl | with_reducible assumption)) | (refine' wpList_storeAll hR rfl rfl rfl inferInstance rfl ?hs ?zone ?zvn ?hn ?_; (case hs => repeat (first | exact SetAt.head | apply SetAt.tail)); (case zone => first | rfl | with_reducible assumption); (case zvn => first | rfl | (simp; done)); (case hn => first | rfl | (simp; done)); clear hR; intro w hR) | (refine' wpList_storeCell hR rfl rfl rfl inferInstance rfl rfl ?hs ?hn ?hl ?_; (case hs => repeat (first | exact SetAt.head | apply SetAt.tail)); (case hn => first | with_reducible assumption | exact of_decide_eq_true rfl | (show _ < 4; with_reducible assumption) | (simp; first | done | omega)); (case hl => first | with_reducible assumption | (simp only [nl, kA, kB]; first | done | rfl) | rfl); clear hR; intro w hR) | (refine' wpList_loadAllG hR rfl rfl rfl inferInstance ?hm ?hn ?_; (case hm => first | with_reducible assumption | repeat (first | exact .head _ | apply List.Mem.tail)); (case hn => first | rfl | (simp; done))) | (refine' wpList_loadCellG hR rfl rfl rfl inferInstance ?hm ?hv ?_; (case hm => first | with_reducible assumption | repeat (first | exact .head _ | apply List.Mem.tail)); (case hv => first | rfl | with_reducible assumption)) | fail)
    rename_i K0 k0
    (first | (rename_i b1; change Nat at b1) | (rename_i b1 _; change Nat at b1) | (rename_i b1 _ _; change Nat at b1) | (rename_i b1 _ _ _; change Nat at b1) | (rename_i b1 _ _ _ _; change Nat at b1) | (rename_i b1 _ _ _ _ _; change Nat at b1) | (rename_i b1 _ _ _ _ _ _; change Nat at b1) | (rename_i b1 _ _ _ _ _ _ _; change Nat at b1) | (rename_i b1 _ _ _ _ _ _ _ _; change Nat at b1) | (rename_i b1 _ _ _ _ _ _ _ _ _; change Nat at b1) | (rename_i b1 _ _ _ _ _ _ _ _ _ _; change Nat at b1) | (rename_i b1 _ _ _ _ _ _ _ _ _ _ _; change Nat at b1) | (rename_i b1 _ _ _ _ _ _ _ _ _ _ _ _; change Nat at b1) | (rename_i b1 _ _ _ _ _ _ _ _ _ _ _ _ _; change Nat at b1))
    refine' loop_rep (false :: false :: false :: false :: false :: false :: false :: true :: true :: true :: false :: false :: false :: false :: false :: false :: false :: false :: false :: false :: false :: false :: false :: false :: false :: false :: false :: false :: true :: true :: true :: true :: true :: true :: true :: true :: true :: true :: true :: true :: true :: true :: true :: true :: true :: true :: true :: true :: true :: true :: true :: true :: true :: true :: true :: true :: true :: true :: true :: true :: true :: true :: true :: true :: true :: true :: true :: true :: true :: true :: true :: true :: []) (fun j l => l.set 27 (.int .i64 ((4 : Int) - (j : Int)))) (fun j => [(blk, .cells (part N (4 - j)).toArray 25), (b1, .cells (nl a).toArray 25)]) 4 ?h0 ?hR ?hs ?he
    case hR =>
      show Rep _ _ [(_, .cells (part N 0).toArray _), _] _
      rw [part_zero, ← nl_zero]
      exact hR
    case h0 =>
      exact agree_of rfl rfl rfl
    case hs =>
      clear hR k0
      intro j tm w hj ht hR K hK
      repeat (first | (obtain ⟨x, tm', e, ht'⟩ := agree_true ht; clear ht; subst e; have ht := ht'; clear ht') | (obtain ⟨tm', e, ht'⟩ := agree_false ht; clear ht; subst e; have ht := ht'; clear ht'))
      obtain rfl := agree_nil ht
      clear ht
      obtain ⟨x, hx⟩ : ∃ x, 4 - (j + 1) = x := ⟨_, rfl⟩
      have hx1 : 4 - j = x + 1 := by omega
      have x4 : x < 4 := by omega
      rw [hx] at hR
      have hi : (4 : Int) - ((j + 1 : Nat) : Int) = (x : Int) := by omega
      have hn : (4 : Int) - (j : Int) = (x : Int) + 1 := by omega
      rw [hi]
      rw [hn, hx1] at hK
      have key := key.out x x4
      have hv := part_at N x x4
      have hset := part_set N x x4
      have hsame := part_same N x x4
      have x0 : 0 ≤ (x : Int) := by omega
      have x1 : (x : Int) < 4 := by omega
      have wx : IntKind.i64.wrap (x : Int) = (x : Int) := by rw [IntKind.wrap_i64]; omega
      clear hi hn hx hx1 hj
      have hn0 : x < (part N x).length := by rw [part_len]; exact x4
      obtain ⟨t, ht⟩ : ∃ t : Nat, (64 : Int) - (r : Int) = (t : Int) := ⟨64 - r, by omega⟩
      have tr : 64 - r = t := by omega
      rw [tr] at key
      have t0 : 0 ≤ (t : Int) := by omega
      have t1 : (t : Int) ≤ 64 := by omega
      have wt : IntKind.i64.wrap (t : Int) = (t : Int) := by rw [IntKind.wrap_i64]; omega
      obtain ⟨k, hk⟩ : ∃ k : Int, (x : Int) - v = k := ⟨_, rfl⟩
      rw [hk] at key
      have k0 : -4 < k := by omega
      have k1 : k ≤ 7 := by omega
      have wk : IntKind.i64.wrap k = k := by rw [IntKind.wrap_i64]; omega
      have five : k < 0 ∨ k = 0 ∨ (1 ≤ k ∧ k ≤ 3) ∨ k = 4 ∨ 5 ≤ k := by omega
      clear tr
      rcases five with c | c | ⟨c, c'⟩ | c | c
      · have hz : wd N x = 0 := by rw [key, if_pos (by omega)]; rfl
        rw [← hsame hz] at hK
        clear key hsame hset hv hz
        go_wp2_with (first | (refine' wpList_boxRep hR rfl rfl rfl ?_; clear hR; intro blk w hR) | (refine' wpList_allocRep hR rfl rfl inferInstance ?_; clear hR; intro blk w hR) | (refine' wpList_loadAll hR rfl rfl rfl inferInstance ?hm ?hn ?_; (case hm => first | with_reducible assumption | repeat (first | exact .head _ | apply List.Mem.tail)); (case hn => first | rfl | (simp; done))) | (refine' wpList_loadRow hR rfl rfl rfl inferInstance ?hm ?hv ?hn ?_; (case hm => first | with_reducible assumption | repeat (first | exact .head _ | apply List.Mem.tail)); (case hv => first | with_reducible assumption | (simp only [kC, kD, kE, kF]; first | done | rfl)); (case hn => first | rfl | (simp; done))) | (refine' wpList_loadCell hR rfl rfl rfl inferInstance ?hm ?hv ?_; (case hm => first | with_reducible assumption | repeat (first | exact .head _ | apply List.Mem.tail)); (case hv => first | rfl | with_reducible assumption)) | (refine' wpList_storeAll hR rfl rfl rfl inferInstance rfl ?hs ?zone ?zvn ?hn ?_; (case hs => repeat (first | exact SetAt.head | apply SetAt.tail)); (case zone => first | rfl | with_reducible assumption); (case zvn => first | rfl | (simp; done)); (case hn => first | rfl | (simp; done)); clear hR; intro w hR) | (refine' wpList_storeCell hR rfl rfl rfl inferInstance rfl rfl ?hs ?hn ?hl ?_; (case hs => repeat (first | exact SetAt.head | apply SetAt.tail)); (case hn => first | with_reducible assumption | exact of_decide_eq_true rfl | (show _ < 4; with_reducible assumption) | (simp; first | done | omega)); (case hl => first | with_reducible assumption | (simp only [nl, kA, kB]; first | done | rfl) | rfl); clear hR; intro w hR) | (refine' wpList_loadAllG hR rfl rfl rfl inferInstance ?hm ?hn ?_; (case hm => first | with_reducible assumption | repeat (first | exact .head _ | apply List.Mem.tail)); (case hn => first | rfl | (simp; done))) | (refine' wpList_loadCellG hR rfl rfl rfl inferInstance ?hm ?hv ?_; (case hm => first | with_reducible assumption | repeat (first | exact .head _ | apply List.Mem.tail)); (case hv => first | rfl | with_reducible assumption)) | fail)
        exact hK.out _ _ (agree_of rfl rfl rfl) hR
      · subst c
        rw [if_neg (by omega), if_pos (by simp), Nat.or_zero] at key
        replace key : wd N x = ((w64 a 0 * 2 ^ r % 2 ^ 64 : Nat) : Int) := key
        have hV : bits BinOp.or IntKind.u64 0 (IntKind.u64.wrap (wd a 0 * 2 ^ r)) = wd N x := by
          rw [shl_word, or_zero_word _ (m64_lt _), key]
        clear hsame key
        go_wp2_with (first | (refine' wpList_boxRep hR rfl rfl rfl ?_; clear hR; intro blk w hR) | (refine' wpList_allocRep hR rfl rfl inferInstance ?_; clear hR; intro blk w hR) | (refine' wpList_loadAll hR rfl rfl rfl inferInstance ?hm ?hn ?_; (case hm => first | with_reducible assumption | repeat (first | exact .head _ | apply List.Mem.tail)); (case hn => first | rfl | (simp; done))) | (refine' wpList_loadRow hR rfl rfl rfl inferInstance ?hm ?hv ?hn ?_; (case hm => first | with_reducible assumption | repeat (first | exact .head _ | apply List.Mem.tail)); (case hv => first | with_reducible assumption | (simp only [kC, kD, kE, kF]; first | done | rfl)); (case hn => first | rfl | (simp; done))) | (refine' wpList_loadCell hR rfl rfl rfl inferInstance ?hm ?hv ?_; (case hm => first | with_reducible assumption | repeat (first | exact .head _ | apply List.Mem.tail)); (case hv => first | rfl | with_reducible assumption)) | (refine' wpList_storeAll hR rfl rfl rfl inferInstance rfl ?hs ?zone ?zvn ?hn ?_; (case hs => repeat (first | exact SetAt.head | apply SetAt.tail)); (case zone => first | rfl | with_reducible assumption); (case zvn => first | rfl | (simp; done)); (case hn => first | rfl | (simp; done)); clear hR; intro w hR) | (refine' wpList_storeCell hR rfl rfl rfl inferInstance rfl rfl ?hs ?hn ?hl ?_; (case hs => repeat (first | exact SetAt.head | apply SetAt.tail)); (case hn => first | with_reducible assumption | exact of_decide_eq_true rfl | (show _ < 4; with_reducible assumption) | (simp; first | done | omega)); (case hl => first | with_reducible assumption | (simp only [nl, kA, kB]; first | done | rfl) | rfl); clear hR; intro w hR) | (refine' wpList_loadAllG hR rfl rfl rfl inferInstance ?hm ?hn ?_; (case hm => first | with_reducible assumption | repeat (first | exact .head _ | apply List.Mem.tail)); (case hn => first | rfl | (simp; done))) | (refine' wpList_loadCellG hR rfl rfl rfl inferInstance ?hm ?hv ?_; (case hm => first | with_reducible assumption | repeat (first | exact .head _ | apply List.Mem.tail)); (case hv => first | rfl | with_reducible assumption)) | fail)
        refine wp_region_ord hR [0, 0, 0, 0, 0, 0, 0, 0, 0, 0, 2] [] mixed (by kernel_rfl) rfl rfl (fun K hK => ?_)
        clear hR
        repeat ((first | (refine hd_tail ?_) | (refine' hd_move (by decide) rfl (.inl rfl) rfl ?ha ?_) | (refine' hd_move (by decide) rfl (.inr rfl) rfl ?ha ?_) | (refine' hd_loadAll rfl rfl rfl inferInstance ?hm ?hn ?ha ?_; (case hm => first | with_reducible assumption | repeat (first | exact .head _ | apply List.Mem.tail)); (case hn => first | rfl | (simp; done))) | (refine' hd_loadRow rfl rfl rfl inferInstance ?hm ?hv ?hn ?ha ?_; (case hm => first | with_reducible assumption | repeat (first | exact .head _ | apply List.Mem.tail)); (case hv => first | with_reducible assumption | (simp only [kC, kD, kE, kF]; first | done | rfl)); (case hn => first | rfl | (simp; done))) | (refine' hd_loadCell rfl rfl rfl inferInstance ?hm ?hv ?ha ?_; (case hm => first | with_reducible assumption | repeat (first | exact .head _ | apply List.Mem.tail)); (case hv => first | rfl | with_reducible assumption)) | (refine' hd_keepRow rfl rfl rfl inferInstance ?hm ?hv ?hn ?ha ?_; (case hm => first | with_reducible assumption | repeat (first | exact .head _ | apply List.Mem.tail)); (case hv => first | with_reducible assumption | (simp only [kC, kD, kE, kF]; first | done | rfl)); (case hn => first | rfl | (simp; done))) | (refine' hd_keepCell rfl rfl rfl inferInstance ?hm ?hv ?ha ?_; (case hm => first | with_reducible assumption | repeat (first | exact .head _ | apply List.Mem.tail)); (case hv => first | rfl | with_reducible assumption)) | ((first | refine' hd_indexAddr (by decide) rfl rfl rfl rfl (fun w => ?hq) ?ha ?_ | refine' hd_binOp (by decide) rfl rfl rfl rfl (fun w => ?hq) ?ha ?_ | refine' hd_extract (by decide) rfl rfl rfl (fun w => ?hq) ?ha ?_ | refine' hd_fieldAddr (by decide) rfl rfl rfl (fun w => ?hq) ?ha ?_ | refine' hd_convert (by decide) rfl rfl rfl (fun w => ?hq) ?ha ?_ | refine' hd_index (by decide) rfl rfl rfl rfl (fun w => ?hq) ?ha ?_ | refine' hd_slice (by decide) rfl rfl rfl rfl rfl rfl (fun w => ?hq) ?ha ?_ | refine' hd_build (by decide) rfl rfl (fun w => ?hq) ?ha ?_ | refine' hd_arrayAt (by decide) rfl rfl rfl (fun w => ?hq) ?ha ?_ | refine' hd_field (by decide) rfl rfl rfl (fun w => ?hq) ?ha ?_); (case hq => go_simp; first | done | rfl)) | (refine' hd_nilCheck (by decide) rfl rfl rfl ?ha ?_) | (refine' hd_pick (by decide) rfl rfl rfl rfl ?ha ?_) | (refine' hd_skip (by decide) rfl ?ha ?_) | fail); try (case ha => simp only [kP, kQ, kA, kB]; try rfl))
        refine hd_nil (hK _ _ ?_)
        clear hK K
        refine tl_gen (fun Q hQ => ?_)
        try simp only [List.nil_append, List.cons_append]
        repeat ((first | refine' tl_move rfl (.inl rfl) rfl ?hk ?ha ?_ | refine' tl_move rfl (.inr rfl) rfl ?hk ?ha ?_ | (refine' tl_storeAll rfl rfl rfl inferInstance rfl ?hs rfl rfl ?hn ?hk ?ha ?_; (case hs => repeat (first | exact SetAt.head | apply SetAt.tail)); (case hn => first | rfl | (simp; done))) | (refine' tl_storeCell rfl rfl rfl inferInstance rfl rfl ?hs ?hn ?hl ?hk ?ha ?_; (case hs => repeat (first | exact SetAt.head | apply SetAt.tail)); (case hn => first | with_reducible assumption | exact of_decide_eq_true rfl | (show _ < 4; with_reducible assumption) | (simp; first | done | omega)); (case hl => first | with_reducible assumption | (simp only [nl, kA, kB]; first | done | rfl) | rfl)) | (refine' tl_storeRow rfl rfl rfl inferInstance rfl rfl ?hvn ?hs ?hn ?hl ?hk ?ha ?_; (case hvn => first | rfl | (simp; done)); (case hs => repeat (first | exact SetAt.head | apply SetAt.tail)); (case hn => first | with_reducible assumption | exact of_decide_eq_true rfl | (show _ < 4; with_reducible assumption) | (simp; first | done | omega)); (case hl => first | with_reducible assumption | (simp only [nl, kA, kB]; first | done | rfl) | rfl)) | (refine' tl_pure rfl (fun w => ?hq) ?hk ?ha ?_; (case hq => go_simp; first | done | rfl))); (case hk => intro p hp; first | exact absurd hp List.not_mem_nil | (obtain rfl := List.mem_singleton.1 hp; repeat (first | exact List.Mem.head _ | apply List.Mem.tail))); (case ha => simp only [kP, kQ, kA, kB]; try rfl))
        refine tl_nil (fun w hR => hQ _ _ ?_)
        clear hQ Q
        go_wp2_with (first | (refine' wpList_boxRep hR rfl rfl rfl ?_; clear hR; intro blk w hR) | (refine' wpList_allocRep hR rfl rfl inferInstance ?_; clear hR; intro blk w hR) | (refine' wpList_loadAll hR rfl rfl rfl inferInstance ?hm ?hn ?_; (case hm => first | with_reducible assumption | repeat (first | exact .head _ | apply List.Mem.tail)); (case hn => first | rfl | (simp; done))) | (refine' wpList_loadRow hR rfl rfl rfl inferInstance ?hm ?hv ?hn ?_; (case hm => first | with_reducible assumption | repeat (first | exact .head _ | apply List.Mem.tail)); (case hv => first | with_reducible assumption | (simp only [kC, kD, kE, kF]; first | done | rfl)); (case hn => first | rfl | (simp; done))) | (refine' wpList_loadCell hR rfl rfl rfl inferInstance ?hm ?hv ?_; (case hm => first | with_reducible assumption | repeat (first | exact .head _ | apply List.Mem.tail)); (case hv => first | rfl | with_reducible assumption)) | (refine' wpList_storeAll hR rfl rfl rfl inferInstance rfl ?hs ?zone ?zvn ?hn ?_; (case hs => repeat (first | exact SetAt.head | apply SetAt.tail)); (case zone => first | rfl | with_reducible assumption); (case zvn => first | rfl | (simp; done)); (case hn => first | rfl | (simp; done)); clear hR; intro w hR) | (refine' wpList_storeCell hR rfl rfl rfl inferInstance rfl rfl ?hs ?hn ?hl ?_; (case hs => repeat (first | exact SetAt.head | apply SetAt.tail)); (case hn => first | with_reducible assumption | exact of_decide_eq_true rfl | (show _ < 4; with_reducible assumption) | (simp; first | done | omega)); (case hl => first | with_reducible assumption | (simp only [nl, kA, kB]; first | done | rfl) | rfl); clear hR; intro w hR) | (refine' wpList_loadAllG hR rfl rfl rfl inferInstance ?hm ?hn ?_; (case hm => first | with_reducible assumption | repeat (first | exact .head _ | apply List.Mem.tail)); (case hn => first | rfl | (simp; done))) | (refine' wpList_loadCellG hR rfl rfl rfl inferInstance ?hm ?hv ?_; (case hm => first | with_reducible assumption | repeat (first | exact .head _ | apply List.Mem.tail)); (case hv => first | rfl | with_reducible assumption)) | fail)
        exact hK.out _ _ (agree_of rfl rfl rfl) hR
      · obtain ⟨u, hu⟩ : ∃ u : Nat, k - 1 = (u : Int) := ⟨(k - 1).toNat, by omega⟩
        obtain ⟨y, rfl⟩ : ∃ y : Nat, k = (y : Int) := ⟨k.toNat, by omega⟩
        have ey : y = u + 1 := by omega
        rw [if_neg (by omega), if_neg (by simp; omega)] at key
        replace key : wd N x = ((w64 a y * 2 ^ r % 2 ^ 64 ||| w64 a (y - 1) / 2 ^ t : Nat) : Int) := key
        rw [show y - 1 = u by omega] at key
        obtain ⟨V1, hV1⟩ : ∃ V, bits BinOp.or IntKind.u64 0 (IntKind.u64.wrap (wd a y * 2 ^ r)) = V := ⟨_, rfl⟩
        have eV1 : V1 = ((w64 a y * 2 ^ r % 2 ^ 64 : Nat) : Int) := by
          rw [← hV1, shl_word, or_zero_word _ (m64_lt _)]
        have hV2 : bits BinOp.or IntKind.u64 V1 (wd a u / 2 ^ t) = wd N x := by
          rw [eV1, shr_word, key]
          exact bits_or_u64_nat _ _ (m64_lt _) (Nat.lt_of_le_of_lt (Nat.div_le_self _ _) (w64_lt _ _))
        obtain ⟨p1, hp1⟩ : ∃ p, (part N x).set x (.int .u64 V1) = p := ⟨_, rfl⟩
        have hv1 : p1[x]? = some (.int .u64 V1) := by
          rw [← hp1]; simp [part_len, x4]
        have hset2 : p1.set x (.int .u64 (wd N x)) = part N (x + 1) := by
          rw [← hp1, List.set_set, hset]
        have hn1 : x < p1.length := by rw [← hp1]; simp [part_len, x4]
        have y4 : y < 4 := by omega
        have u4 : u < 4 := by omega
        have hy := nl_at a y y4
        have hu' := nl_at a u u4
        have y0 : 0 ≤ (y : Int) := by omega
        have y1 : (y : Int) < 4 := by omega
        have u0 : 0 ≤ (u : Int) := by omega
        have u1 : (u : Int) < 4 := by omega
        have wu : IntKind.i64.wrap (u : Int) = (u : Int) := by rw [IntKind.wrap_i64]; omega
        clear hsame key hset eV1 ey c c'
        go_wp2_with (first | (refine' wpList_boxRep hR rfl rfl rfl ?_; clear hR; intro blk w hR) | (refine' wpList_allocRep hR rfl rfl inferInstance ?_; clear hR; intro blk w hR) | (refine' wpList_loadAll hR rfl rfl rfl inferInstance ?hm ?hn ?_; (case hm => first | with_reducible assumption | repeat (first | exact .head _ | apply List.Mem.tail)); (case hn => first | rfl | (simp; done))) | (refine' wpList_loadRow hR rfl rfl rfl inferInstance ?hm ?hv ?hn ?_; (case hm => first | with_reducible assumption | repeat (first | exact .head _ | apply List.Mem.tail)); (case hv => first | with_reducible assumption | (simp only [kC, kD, kE, kF]; first | done | rfl)); (case hn => first | rfl | (simp; done))) | (refine' wpList_loadCell hR rfl rfl rfl inferInstance ?hm ?hv ?_; (case hm => first | with_reducible assumption | repeat (first | exact .head _ | apply List.Mem.tail)); (case hv => first | rfl | with_reducible assumption)) | (refine' wpList_storeAll hR rfl rfl rfl inferInstance rfl ?hs ?zone ?zvn ?hn ?_; (case hs => repeat (first | exact SetAt.head | apply SetAt.tail)); (case zone => first | rfl | with_reducible assumption); (case zvn => first | rfl | (simp; done)); (case hn => first | rfl | (simp; done)); clear hR; intro w hR) | (refine' wpList_storeCell hR rfl rfl rfl inferInstance rfl rfl ?hs ?hn ?hl ?_; (case hs => repeat (first | exact SetAt.head | apply SetAt.tail)); (case hn => first | with_reducible assumption | exact of_decide_eq_true rfl | (show _ < 4; with_reducible assumption) | (simp; first | done | omega)); (case hl => first | with_reducible assumption | (simp only [nl, kA, kB]; first | done | rfl) | rfl); clear hR; intro w hR) | (refine' wpList_loadAllG hR rfl rfl rfl inferInstance ?hm ?hn ?_; (case hm => first | with_reducible assumption | repeat (first | exact .head _ | apply List.Mem.tail)); (case hn => first | rfl | (simp; done))) | (refine' wpList_loadCellG hR rfl rfl rfl inferInstance ?hm ?hv ?_; (case hm => first | with_reducible assumption | repeat (first | exact .head _ | apply List.Mem.tail)); (case hv => first | rfl | with_reducible assumption)) | fail)
        refine wp_region_ord hR [0, 0, 0, 0, 0, 0, 0, 0, 0, 0, 2] [] mixed (by kernel_rfl) rfl rfl (fun K hK => ?_)
        clear hR
        repeat ((first | (refine hd_tail ?_) | (refine' hd_move (by decide) rfl (.inl rfl) rfl ?ha ?_) | (refine' hd_move (by decide) rfl (.inr rfl) rfl ?ha ?_) | (refine' hd_loadAll rfl rfl rfl inferInstance ?hm ?hn ?ha ?_; (case hm => first | with_reducible assumption | repeat (first | exact .head _ | apply List.Mem.tail)); (case hn => first | rfl | (simp; done))) | (refine' hd_loadRow rfl rfl rfl inferInstance ?hm ?hv ?hn ?ha ?_; (case hm => first | with_reducible assumption | repeat (first | exact .head _ | apply List.Mem.tail)); (case hv => first | with_reducible assumption | (simp only [kC, kD, kE, kF]; first | done | rfl)); (case hn => first | rfl | (simp; done))) | (refine' hd_loadCell rfl rfl rfl inferInstance ?hm ?hv ?ha ?_; (case hm => first | with_reducible assumption | repeat (first | exact .head _ | apply List.Mem.tail)); (case hv => first | rfl | with_reducible assumption)) | (refine' hd_keepRow rfl rfl rfl inferInstance ?hm ?hv ?hn ?ha ?_; (case hm => first | with_reducible assumption | repeat (first | exact .head _ | apply List.Mem.tail)); (case hv => first | with_reducible assumption | (simp only [kC, kD, kE, kF]; first | done | rfl)); (case hn => first | rfl | (simp; done))) | (refine' hd_keepCell rfl rfl rfl inferInstance ?hm ?hv ?ha ?_; (case hm => first | with_reducible assumption | repeat (first | exact .head _ | apply List.Mem.tail)); (case hv => first | rfl | with_reducible assumption)) | ((first | refine' hd_indexAddr (by decide) rfl rfl rfl rfl (fun w => ?hq) ?ha ?_ | refine' hd_binOp (by decide) rfl rfl rfl rfl (fun w => ?hq) ?ha ?_ | refine' hd_extract (by decide) rfl rfl rfl (fun w => ?hq) ?ha ?_ | refine' hd_fieldAddr (by decide) rfl rfl rfl (fun w => ?hq) ?ha ?_ | refine' hd_convert (by decide) rfl rfl rfl (fun w => ?hq) ?ha ?_ | refine' hd_index (by decide) rfl rfl rfl rfl (fun w => ?hq) ?ha ?_ | refine' hd_slice (by decide) rfl rfl rfl rfl rfl rfl (fun w => ?hq) ?ha ?_ | refine' hd_build (by decide) rfl rfl (fun w => ?hq) ?ha ?_ | refine' hd_arrayAt (by decide) rfl rfl rfl (fun w => ?hq) ?ha ?_ | refine' hd_field (by decide) rfl rfl rfl (fun w => ?hq) ?ha ?_); (case hq => go_simp; first | done | rfl)) | (refine' hd_nilCheck (by decide) rfl rfl rfl ?ha ?_) | (refine' hd_pick (by decide) rfl rfl rfl rfl ?ha ?_) | (refine' hd_skip (by decide) rfl ?ha ?_) | fail); try (case ha => simp only [kP, kQ, kA, kB]; try rfl))
        refine hd_nil (hK _ _ ?_)
        clear hK K
        refine tl_gen (fun Q hQ => ?_)
        try simp only [List.nil_append, List.cons_append]
        repeat ((first | refine' tl_move rfl (.inl rfl) rfl ?hk ?ha ?_ | refine' tl_move rfl (.inr rfl) rfl ?hk ?ha ?_ | (refine' tl_storeAll rfl rfl rfl inferInstance rfl ?hs rfl rfl ?hn ?hk ?ha ?_; (case hs => repeat (first | exact SetAt.head | apply SetAt.tail)); (case hn => first | rfl | (simp; done))) | (refine' tl_storeCell rfl rfl rfl inferInstance rfl rfl ?hs ?hn ?hl ?hk ?ha ?_; (case hs => repeat (first | exact SetAt.head | apply SetAt.tail)); (case hn => first | with_reducible assumption | exact of_decide_eq_true rfl | (show _ < 4; with_reducible assumption) | (simp; first | done | omega)); (case hl => first | with_reducible assumption | (simp only [nl, kA, kB]; first | done | rfl) | rfl)) | (refine' tl_storeRow rfl rfl rfl inferInstance rfl rfl ?hvn ?hs ?hn ?hl ?hk ?ha ?_; (case hvn => first | rfl | (simp; done)); (case hs => repeat (first | exact SetAt.head | apply SetAt.tail)); (case hn => first | with_reducible assumption | exact of_decide_eq_true rfl | (show _ < 4; with_reducible assumption) | (simp; first | done | omega)); (case hl => first | with_reducible assumption | (simp only [nl, kA, kB]; first | done | rfl) | rfl)) | (refine' tl_pure rfl (fun w => ?hq) ?hk ?ha ?_; (case hq => go_simp; first | done | rfl))); (case hk => intro p hp; first | exact absurd hp List.not_mem_nil | (obtain rfl := List.mem_singleton.1 hp; repeat (first | exact List.Mem.head _ | apply List.Mem.tail))); (case ha => simp only [kP, kQ, kA, kB]; try rfl))
        refine tl_nil (fun w hR => hQ _ _ ?_)
        clear hQ Q
        go_wp2_with (first | (refine' wpList_boxRep hR rfl rfl rfl ?_; clear hR; intro blk w hR) | (refine' wpList_allocRep hR rfl rfl inferInstance ?_; clear hR; intro blk w hR) | (refine' wpList_loadAll hR rfl rfl rfl inferInstance ?hm ?hn ?_; (case hm => first | with_reducible assumption | repeat (first | exact .head _ | apply List.Mem.tail)); (case hn => first | rfl | (simp; done))) | (refine' wpList_loadRow hR rfl rfl rfl inferInstance ?hm ?hv ?hn ?_; (case hm => first | with_reducible assumption | repeat (first | exact .head _ | apply List.Mem.tail)); (case hv => first | with_reducible assumption | (simp only [kC, kD, kE, kF]; first | done | rfl)); (case hn => first | rfl | (simp; done))) | (refine' wpList_loadCell hR rfl rfl rfl inferInstance ?hm ?hv ?_; (case hm => first | with_reducible assumption | repeat (first | exact .head _ | apply List.Mem.tail)); (case hv => first | rfl | with_reducible assumption)) | (refine' wpList_storeAll hR rfl rfl rfl inferInstance rfl ?hs ?zone ?zvn ?hn ?_; (case hs => repeat (first | exact SetAt.head | apply SetAt.tail)); (case zone => first | rfl | with_reducible assumption); (case zvn => first | rfl | (simp; done)); (case hn => first | rfl | (simp; done)); clear hR; intro w hR) | (refine' wpList_storeCell hR rfl rfl rfl inferInstance rfl rfl ?hs ?hn ?hl ?_; (case hs => repeat (first | exact SetAt.head | apply SetAt.tail)); (case hn => first | with_reducible assumption | exact of_decide_eq_true rfl | (show _ < 4; with_reducible assumption) | (simp; first | done | omega)); (case hl => first | with_reducible assumption | (simp only [nl, kA, kB]; first | done | rfl) | rfl); clear hR; intro w hR) | (refine' wpList_loadAllG hR rfl rfl rfl inferInstance ?hm ?hn ?_; (case hm => first | with_reducible assumption | repeat (first | exact .head _ | apply List.Mem.tail)); (case hn => first | rfl | (simp; done))) | (refine' wpList_loadCellG hR rfl rfl rfl inferInstance ?hm ?hv ?_; (case hm => first | with_reducible assumption | repeat (first | exact .head _ | apply List.Mem.tail)); (case hv => first | rfl | with_reducible assumption)) | fail)
        refine wp_region_ord hR [0, 0, 0, 0, 0, 0, 0, 0, 0, 0, 0, 2] [] mixed (by kernel_rfl) rfl rfl (fun K hK => ?_)
        clear hR
        repeat ((first | (refine hd_tail ?_) | (refine' hd_move (by decide) rfl (.inl rfl) rfl ?ha ?_) | (refine' hd_move (by decide) rfl (.inr rfl) rfl ?ha ?_) | (refine' hd_loadAll rfl rfl rfl inferInstance ?hm ?hn ?ha ?_; (case hm => first | with_reducible assumption | repeat (first | exact .head _ | apply List.Mem.tail)); (case hn => first | rfl | (simp; done))) | (refine' hd_loadRow rfl rfl rfl inferInstance ?hm ?hv ?hn ?ha ?_; (case hm => first | with_reducible assumption | repeat (first | exact .head _ | apply List.Mem.tail)); (case hv => first | with_reducible assumption | (simp only [kC, kD, kE, kF]; first | done | rfl)); (case hn => first | rfl | (simp; done))) | (refine' hd_loadCell rfl rfl rfl inferInstance ?hm ?hv ?ha ?_; (case hm => first | with_reducible assumption | repeat (first | exact .head _ | apply List.Mem.tail)); (case hv => first | rfl | with_reducible assumption)) | (refine' hd_keepRow rfl rfl rfl inferInstance ?hm ?hv ?hn ?ha ?_; (case hm => first | with_reducible assumption | repeat (first | exact .head _ | apply List.Mem.tail)); (case hv => first | with_reducible assumption | (simp only [kC, kD, kE, kF]; first | done | rfl)); (case hn => first | rfl | (simp; done))) | (refine' hd_keepCell rfl rfl rfl inferInstance ?hm ?hv ?ha ?_; (case hm => first | with_reducible assumption | repeat (first | exact .head _ | apply List.Mem.tail)); (case hv => first | rfl | with_reducible assumption)) | ((first | refine' hd_indexAddr (by decide) rfl rfl rfl rfl (fun w => ?hq) ?ha ?_ | refine' hd_binOp (by decide) rfl rfl rfl rfl (fun w => ?hq) ?ha ?_ | refine' hd_extract (by decide) rfl rfl rfl (fun w => ?hq) ?ha ?_ | refine' hd_fieldAddr (by decide) rfl rfl rfl (fun w => ?hq) ?ha ?_ | refine' hd_convert (by decide) rfl rfl rfl (fun w => ?hq) ?ha ?_ | refine' hd_index (by decide) rfl rfl rfl rfl (fun w => ?hq) ?ha ?_ | refine' hd_slice (by decide) rfl rfl rfl rfl rfl rfl (fun w => ?hq) ?ha ?_ | refine' hd_build (by decide) rfl rfl (fun w => ?hq) ?ha ?_ | refine' hd_arrayAt (by decide) rfl rfl rfl (fun w => ?hq) ?ha ?_ | refine' hd_field (by decide) rfl rfl rfl (fun w => ?hq) ?ha ?_); (case hq => go_simp; first | done | rfl)) | (refine' hd_nilCheck (by decide) rfl rfl rfl ?ha ?_) | (refine' hd_pick (by decide) rfl rfl rfl rfl ?ha ?_) | (refine' hd_skip (by decide) rfl ?ha ?_) | fail); try (case ha => simp only [kP, kQ, kA, kB]; try rfl))
        refine hd_nil (hK _ _ ?_)
        clear hK K
        refine tl_gen (fun Q hQ => ?_)
        try simp only [List.nil_append, List.cons_append]
        repeat ((first | refine' tl_move rfl (.inl rfl) rfl ?hk ?ha ?_ | refine' tl_move rfl (.inr rfl) rfl ?hk ?ha ?_ | (refine' tl_storeAll rfl rfl rfl inferInstance rfl ?hs rfl rfl ?hn ?hk ?ha ?_; (case hs => repeat (first | exact SetAt.head | apply SetAt.tail)); (case hn => first | rfl | (simp; done))) | (refine' tl_storeCell rfl rfl rfl inferInstance rfl rfl ?hs ?hn ?hl ?hk ?ha ?_; (case hs => repeat (first | exact SetAt.head | apply SetAt.tail)); (case hn => first | with_reducible assumption | exact of_decide_eq_true rfl | (show _ < 4; with_reducible assumption) | (simp; first | done | omega)); (case hl => first | with_reducible assumption | (simp only [nl, kA, kB]; first | done | rfl) | rfl)) | (refine' tl_storeRow rfl rfl rfl inferInstance rfl rfl ?hvn ?hs ?hn ?hl ?hk ?ha ?_; (case hvn => first | rfl | (simp; done)); (case hs => repeat (first | exact SetAt.head | apply SetAt.tail)); (case hn => first | with_reducible assumption | exact of_decide_eq_true rfl | (show _ < 4; with_reducible assumption) | (simp; first | done | omega)); (case hl => first | with_reducible assumption | (simp only [nl, kA, kB]; first | done | rfl) | rfl)) | (refine' tl_pure rfl (fun w => ?hq) ?hk ?ha ?_; (case hq => go_simp; first | done | rfl))); (case hk => intro p hp; first | exact absurd hp List.not_mem_nil | (obtain rfl := List.mem_singleton.1 hp; repeat (first | exact List.Mem.head _ | apply List.Mem.tail))); (case ha => simp only [kP, kQ, kA, kB]; try rfl))
        refine tl_nil (fun w hR => hQ _ _ ?_)
        clear hQ Q
        go_wp2_with (first | (refine' wpList_boxRep hR rfl rfl rfl ?_; clear hR; intro blk w hR) | (refine' wpList_allocRep hR rfl rfl inferInstance ?_; clear hR; intro blk w hR) | (refine' wpList_loadAll hR rfl rfl rfl inferInstance ?hm ?hn ?_; (case hm => first | with_reducible assumption | repeat (first | exact .head _ | apply List.Mem.tail)); (case hn => first | rfl | (simp; done))) | (refine' wpList_loadRow hR rfl rfl rfl inferInstance ?hm ?hv ?hn ?_; (case hm => first | with_reducible assumption | repeat (first | exact .head _ | apply List.Mem.tail)); (case hv => first | with_reducible assumption | (simp only [kC, kD, kE, kF]; first | done | rfl)); (case hn => first | rfl | (simp; done))) | (refine' wpList_loadCell hR rfl rfl rfl inferInstance ?hm ?hv ?_; (case hm => first | with_reducible assumption | repeat (first | exact .head _ | apply List.Mem.tail)); (case hv => first | rfl | with_reducible assumption)) | (refine' wpList_storeAll hR rfl rfl rfl inferInstance rfl ?hs ?zone ?zvn ?hn ?_; (case hs => repeat (first | exact SetAt.head | apply SetAt.tail)); (case zone => first | rfl | with_reducible assumption); (case zvn => first | rfl | (simp; done)); (case hn => first | rfl | (simp; done)); clear hR; intro w hR) | (refine' wpList_storeCell hR rfl rfl rfl inferInstance rfl rfl ?hs ?hn ?hl ?_; (case hs => repeat (first | exact SetAt.head | apply SetAt.tail)); (case hn => first | with_reducible assumption | exact of_decide_eq_true rfl | (show _ < 4; with_reducible assumption) | (simp; first | done | omega)); (case hl => first | with_reducible assumption | (simp only [nl, kA, kB]; first | done | rfl) | rfl); clear hR; intro w hR) | (refine' wpList_loadAllG hR rfl rfl rfl inferInstance ?hm ?hn ?_; (case hm => first | with_reducible assumption | repeat (first | exact .head _ | apply List.Mem.tail)); (case hn => first | rfl | (simp; done))) | (refine' wpList_loadCellG hR rfl rfl rfl inferInstance ?hm ?hv ?_; (case hm => first | with_reducible assumption | repeat (first | exact .head _ | apply List.Mem.tail)); (case hv => first | rfl | with_reducible assumption)) | fail)
        exact hK.out _ _ (agree_of rfl rfl rfl) hR
      · subst c
        rw [if_neg (by omega), if_neg (by simp)] at key
        replace key : wd N x = ((w64 a 4 * 2 ^ r % 2 ^ 64 ||| w64 a 3 / 2 ^ t : Nat) : Int) := key
        rw [w64_zero ha (Nat.le_refl 4), Nat.zero_mul, Nat.zero_mod, Nat.zero_or] at key
        have hV : bits BinOp.or IntKind.u64 0 (wd a 3 / 2 ^ t) = wd N x := by
          rw [shr_word, or_zero_word _ (Nat.lt_of_le_of_lt (Nat.div_le_self _ _) (w64_lt _ _)), key]
        clear hsame key
        go_wp2_with (first | (refine' wpList_boxRep hR rfl rfl rfl ?_; clear hR; intro blk w hR) | (refine' wpList_allocRep hR rfl rfl inferInstance ?_; clear hR; intro blk w hR) | (refine' wpList_loadAll hR rfl rfl rfl inferInstance ?hm ?hn ?_; (case hm => first | with_reducible assumption | repeat (first | exact .head _ | apply List.Mem.tail)); (case hn => first | rfl | (simp; done))) | (refine' wpList_loadRow hR rfl rfl rfl inferInstance ?hm ?hv ?hn ?_; (case hm => first | with_reducible assumption | repeat (first | exact .head _ | apply List.Mem.tail)); (case hv => first | with_reducible assumption | (simp only [kC, kD, kE, kF]; first | done | rfl)); (case hn => first | rfl | (simp; done))) | (refine' wpList_loadCell hR rfl rfl rfl inferInstance ?hm ?hv ?_; (case hm => first | with_reducible assumption | repeat (first | exact .head _ | apply List.Mem.tail)); (case hv => first | rfl | with_reducible assumption)) | (refine' wpList_storeAll hR rfl rfl rfl inferInstance rfl ?hs ?zone ?zvn ?hn ?_; (case hs => repeat (first | exact SetAt.head | apply SetAt.tail)); (case zone => first | rfl | with_reducible assumption); (case zvn => first | rfl | (simp; done)); (case hn => first | rfl | (simp; done)); clear hR; intro w hR) | (refine' wpList_storeCell hR rfl rfl rfl inferInstance rfl rfl ?hs ?hn ?hl ?_; (case hs => repeat (first | exact SetAt.head | apply SetAt.tail)); (case hn => first | with_reducible assumption | exact of_decide_eq_true rfl | (show _ < 4; with_reducible assumption) | (simp; first | done | omega)); (case hl => first | with_reducible assumption | (simp only [nl, kA, kB]; first | done | rfl) | rfl); clear hR; intro w hR) | (refine' wpList_loadAllG hR rfl rfl rfl inferInstance ?hm ?hn ?_; (case hm => first | with_reducible assumption | repeat (first | exact .head _ | apply List.Mem.tail)); (case hn => first | rfl | (simp; done))) | (refine' wpList_loadCellG hR rfl rfl rfl inferInstance ?hm ?hv ?_; (case hm => first | with_reducible assumption | repeat (first | exact .head _ | apply List.Mem.tail)); (case hv => first | rfl | with_reducible assumption)) | fail)
        refine wp_region_ord hR [0, 0, 0, 0, 0, 0, 0, 0, 0, 0, 0, 2] [] mixed (by kernel_rfl) rfl rfl (fun K hK => ?_)
        clear hR
        repeat ((first | (refine hd_tail ?_) | (refine' hd_move (by decide) rfl (.inl rfl) rfl ?ha ?_) | (refine' hd_move (by decide) rfl (.inr rfl) rfl ?ha ?_) | (refine' hd_loadAll rfl rfl rfl inferInstance ?hm ?hn ?ha ?_; (case hm => first | with_reducible assumption | repeat (first | exact .head _ | apply List.Mem.tail)); (case hn => first | rfl | (simp; done))) | (refine' hd_loadRow rfl rfl rfl inferInstance ?hm ?hv ?hn ?ha ?_; (case hm => first | with_reducible assumption | repeat (first | exact .head _ | apply List.Mem.tail)); (case hv => first | with_reducible assumption | (simp only [kC, kD, kE, kF]; first | done | rfl)); (case hn => first | rfl | (simp; done))) | (refine' hd_loadCell rfl rfl rfl inferInstance ?hm ?hv ?ha ?_; (case hm => first | with_reducible assumption | repeat (first | exact .head _ | apply List.Mem.tail)); (case hv => first | rfl | with_reducible assumption)) | (refine' hd_keepRow rfl rfl rfl inferInstance ?hm ?hv ?hn ?ha ?_; (case hm => first | with_reducible assumption | repeat (first | exact .head _ | apply List.Mem.tail)); (case hv => first | with_reducible assumption | (simp only [kC, kD, kE, kF]; first | done | rfl)); (case hn => first | rfl | (simp; done))) | (refine' hd_keepCell rfl rfl rfl inferInstance ?hm ?hv ?ha ?_; (case hm => first | with_reducible assumption | repeat (first | exact .head _ | apply List.Mem.tail)); (case hv => first | rfl | with_reducible assumption)) | ((first | refine' hd_indexAddr (by decide) rfl rfl rfl rfl (fun w => ?hq) ?ha ?_ | refine' hd_binOp (by decide) rfl rfl rfl rfl (fun w => ?hq) ?ha ?_ | refine' hd_extract (by decide) rfl rfl rfl (fun w => ?hq) ?ha ?_ | refine' hd_fieldAddr (by decide) rfl rfl rfl (fun w => ?hq) ?ha ?_ | refine' hd_convert (by decide) rfl rfl rfl (fun w => ?hq) ?ha ?_ | refine' hd_index (by decide) rfl rfl rfl rfl (fun w => ?hq) ?ha ?_ | refine' hd_slice (by decide) rfl rfl rfl rfl rfl rfl (fun w => ?hq) ?ha ?_ | refine' hd_build (by decide) rfl rfl (fun w => ?hq) ?ha ?_ | refine' hd_arrayAt (by decide) rfl rfl rfl (fun w => ?hq) ?ha ?_ | refine' hd_field (by decide) rfl rfl rfl (fun w => ?hq) ?ha ?_); (case hq => go_simp; first | done | rfl)) | (refine' hd_nilCheck (by decide) rfl rfl rfl ?ha ?_) | (refine' hd_pick (by decide) rfl rfl rfl rfl ?ha ?_) | (refine' hd_skip (by decide) rfl ?ha ?_) | fail); try (case ha => simp only [kP, kQ, kA, kB]; try rfl))
        refine hd_nil (hK _ _ ?_)
        clear hK K
        refine tl_gen (fun Q hQ => ?_)
        try simp only [List.nil_append, List.cons_append]
        repeat ((first | refine' tl_move rfl (.inl rfl) rfl ?hk ?ha ?_ | refine' tl_move rfl (.inr rfl) rfl ?hk ?ha ?_ | (refine' tl_storeAll rfl rfl rfl inferInstance rfl ?hs rfl rfl ?hn ?hk ?ha ?_; (case hs => repeat (first | exact SetAt.head | apply SetAt.tail)); (case hn => first | rfl | (simp; done))) | (refine' tl_storeCell rfl rfl rfl inferInstance rfl rfl ?hs ?hn ?hl ?hk ?ha ?_; (case hs => repeat (first | exact SetAt.head | apply SetAt.tail)); (case hn => first | with_reducible assumption | exact of_decide_eq_true rfl | (show _ < 4; with_reducible assumption) | (simp; first | done | omega)); (case hl => first | with_reducible assumption | (simp only [nl, kA, kB]; first | done | rfl) | rfl)) | (refine' tl_storeRow rfl rfl rfl inferInstance rfl rfl ?hvn ?hs ?hn ?hl ?hk ?ha ?_; (case hvn => first | rfl | (simp; done)); (case hs => repeat (first | exact SetAt.head | apply SetAt.tail)); (case hn => first | with_reducible assumption | exact of_decide_eq_true rfl | (show _ < 4; with_reducible assumption) | (simp; first | done | omega)); (case hl => first | with_reducible assumption | (simp only [nl, kA, kB]; first | done | rfl) | rfl)) | (refine' tl_pure rfl (fun w => ?hq) ?hk ?ha ?_; (case hq => go_simp; first | done | rfl))); (case hk => intro p hp; first | exact absurd hp List.not_mem_nil | (obtain rfl := List.mem_singleton.1 hp; repeat (first | exact List.Mem.head _ | apply List.Mem.tail))); (case ha => simp only [kP, kQ, kA, kB]; try rfl))
        refine tl_nil (fun w hR => hQ _ _ ?_)
        clear hQ Q
        go_wp2_with (first | (refine' wpList_boxRep hR rfl rfl rfl ?_; clear hR; intro blk w hR) | (refine' wpList_allocRep hR rfl rfl inferInstance ?_; clear hR; intro blk w hR) | (refine' wpList_loadAll hR rfl rfl rfl inferInstance ?hm ?hn ?_; (case hm => first | with_reducible assumption | repeat (first | exact .head _ | apply List.Mem.tail)); (case hn => first | rfl | (simp; done))) | (refine' wpList_loadRow hR rfl rfl rfl inferInstance ?hm ?hv ?hn ?_; (case hm => first | with_reducible assumption | repeat (first | exact .head _ | apply List.Mem.tail)); (case hv => first | with_reducible assumption | (simp only [kC, kD, kE, kF]; first | done | rfl)); (case hn => first | rfl | (simp; done))) | (refine' wpList_loadCell hR rfl rfl rfl inferInstance ?hm ?hv ?_; (case hm => first | with_reducible assumption | repeat (first | exact .head _ | apply List.Mem.tail)); (case hv => first | rfl | with_reducible assumption)) | (refine' wpList_storeAll hR rfl rfl rfl inferInstance rfl ?hs ?zone ?zvn ?hn ?_; (case hs => repeat (first | exact SetAt.head | apply SetAt.tail)); (case zone => first | rfl | with_reducible assumption); (case zvn => first | rfl | (simp; done)); (case hn => first | rfl | (simp; done)); clear hR; intro w hR) | (refine' wpList_storeCell hR rfl rfl rfl inferInstance rfl rfl ?hs ?hn ?hl ?_; (case hs => repeat (first | exact SetAt.head | apply SetAt.tail)); (case hn => first | with_reducible assumption | exact of_decide_eq_true rfl | (show _ < 4; with_reducible assumption) | (simp; first | done | omega)); (case hl => first | with_reducible assumption | (simp only [nl, kA, kB]; first | done | rfl) | rfl); clear hR; intro w hR) | (refine' wpList_loadAllG hR rfl rfl rfl inferInstance ?hm ?hn ?_; (case hm => first | with_reducible assumption | repeat (first | exact .head _ | apply List.Mem.tail)); (case hn => first | rfl | (simp; done))) | (refine' wpList_loadCellG hR rfl rfl rfl inferInstance ?hm ?hv ?_; (case hm => first | with_reducible assumption | repeat (first | exact .head _ | apply List.Mem.tail)); (case hv => first | rfl | with_reducible assumption)) | fail)
        exact hK.out _ _ (agree_of rfl rfl rfl) hR
      · have hz : wd N x = 0 := by
          rw [key, if_neg (by omega), if_neg (by omega), w64_zero ha (by omega), w64_zero ha (by omega)]
          rw [Nat.zero_mul, Nat.zero_div, Nat.zero_mod]
          simp
        rw [← hsame hz] at hK
        clear key hsame hset hv hz
        go_wp2_with (first | (refine' wpList_boxRep hR rfl rfl rfl ?_; clear hR; intro blk w hR) | (refine' wpList_allocRep hR rfl rfl inferInstance ?_; clear hR; intro blk w hR) | (refine' wpList_loadAll hR rfl rfl rfl inferInstance ?hm ?hn ?_; (case hm => first | with_reducible assumption | repeat (first | exact .head _ | apply List.Mem.tail)); (case hn => first | rfl | (simp; done))) | (refine' wpList_loadRow hR rfl rfl rfl inferInstance ?hm ?hv ?hn ?_; (case hm => first | with_reducible assumption | repeat (first | exact .head _ | apply List.Mem.tail)); (case hv => first | with_reducible assumption | (simp only [kC, kD, kE, kF]; first | done | rfl)); (case hn => first | rfl | (simp; done))) | (refine' wpList_loadCell hR rfl rfl rfl inferInstance ?hm ?hv ?_; (case hm => first | with_reducible assumption | repeat (first | exact .head _ | apply List.Mem.tail)); (case hv => first | rfl | with_reducible assumption)) | (refine' wpList_storeAll hR rfl rfl rfl inferInstance rfl ?hs ?zone ?zvn ?hn ?_; (case hs => repeat (first | exact SetAt.head | apply SetAt.tail)); (case zone => first | rfl | with_reducible assumption); (case zvn => first | rfl | (simp; done)); (case hn => first | rfl | (simp; done)); clear hR; intro w hR) | (refine' wpList_storeCell hR rfl rfl rfl inferInstance rfl rfl ?hs ?hn ?hl ?_; (case hs => repeat (first | exact SetAt.head | apply SetAt.tail)); (case hn => first | with_reducible assumption | exact of_decide_eq_true rfl | (show _ < 4; with_reducible assumption) | (simp; first | done | omega)); (case hl => first | with_reducible assumption | (simp only [nl, kA, kB]; first | done | rfl) | rfl); clear hR; intro w hR) | (refine' wpList_loadAllG hR rfl rfl rfl inferInstance ?hm ?hn ?_; (case hm => first | with_reducible assumption | repeat (first | exact .head _ | apply List.Mem.tail)); (case hn => first | rfl | (simp; done))) | (refine' wpList_loadCellG hR rfl rfl rfl inferInstance ?hm ?hv ?_; (case hm => first | with_reducible assumption | repeat (first | exact .head _ | apply List.Mem.tail)); (case hv => first | rfl | with_reducible assumption)) | fail)
        all_goals exact hK.out _ _ (agree_of rfl rfl rfl) hR
    case he =>
      clear hR
      intro tm w ht hR K
      simp only [Int.natCast_zero, Int.sub_zero] at ht
      repeat (first | (obtain ⟨x, tm', e, ht'⟩ := agree_true ht; clear ht; subst e; have ht := ht'; clear ht') | (obtain ⟨tm', e, ht'⟩ := agree_false ht; clear ht; subst e; have ht := ht'; clear ht'))
      obtain rfl := agree_nil ht
      clear ht
      replace hR : Rep _ _ [(_, .cells (part N 4).toArray _), _] _ := hR
      rw [part_all] at hR
      go_wp2_with (first | (refine' wpList_boxRep hR rfl rfl rfl ?_; clear hR; intro blk w hR) | (refine' wpList_allocRep hR rfl rfl inferInstance ?_; clear hR; intro blk w hR) | (refine' wpList_loadAll hR rfl rfl rfl inferInstance ?hm ?hn ?_; (case hm => first | with_reducible assumption | repeat (first | exact .head _ | apply List.Mem.tail)); (case hn => first | rfl | (simp; done))) | (refine' wpList_loadRow hR rfl rfl rfl inferInstance ?hm ?hv ?hn ?_; (case hm => first | with_reducible assumption | repeat (first | exact .head _ | apply List.Mem.tail)); (case hv => first | with_reducible assumption | (simp only [kC, kD, kE, kF]; first | done | rfl)); (case hn => first | rfl | (simp; done))) | (refine' wpList_loadCell hR rfl rfl rfl inferInstance ?hm ?hv ?_; (case hm => first | with_reducible assumption | repeat (first | exact .head _ | apply List.Mem.tail)); (case hv => first | rfl | with_reducible assumption)) | (refine' wpList_storeAll hR rfl rfl rfl inferInstance rfl ?hs ?zone ?zvn ?hn ?_; (case hs => repeat (first | exact SetAt.head | apply SetAt.tail)); (case zone => first | rfl | with_reducible assumption); (case zvn => first | rfl | (simp; done)); (case hn => first | rfl | (simp; done)); clear hR; intro w hR) | (refine' wpList_storeCell hR rfl rfl rfl inferInstance rfl rfl ?hs ?hn ?hl ?_; (case hs => repeat (first | exact SetAt.head | apply SetAt.tail)); (case hn => first | with_reducible assumption | exact of_decide_eq_true rfl | (show _ < 4; with_reducible assumption) | (simp; first | done | omega)); (case hl => first | with_reducible assumption | (simp only [nl, kA, kB]; first | done | rfl) | rfl); clear hR; intro w hR) | fail)
      (refine' bodyPost_ret (results_c Try.results20 rfl (hR.loadAll (P := Try.prog) (ty := 25) ?hm ?hn)) rfl ⟨?_, hR.below⟩; (case hm => first | with_reducible assumption | repeat (first | exact .head _ | apply List.Mem.tail)); (case hn => first | rfl | (simp; done)))
      rfl
end Go.Proofs.Ytlkjbkdnfmbcnaa
