/- The contract of divides.Div. -/
import Derived.Test.YtdmdkdodfngjiaaDivOne
set_option linter.unusedSimpArgs false
set_option linter.unusedVariables false
namespace Go.Proofs.Ytdmdkdodfngjiaa
open Go.RowKit

/-- What is left, and how often, by the bits from j on. -/
noncomputable def rN : Nat → Nat → Nat → Nat := opq fun a b j => a / 2 ^ j % b
theorem rN_def (a b j : Nat) : rN a b j = a / 2 ^ j % b := by unfold rN; rw [opq_eq]
noncomputable def qN : Nat → Nat → Nat → Nat := opq fun a b j => a / 2 ^ j / b * 2 ^ j
theorem qN_def (a b j : Nat) : qN a b j = a / 2 ^ j / b * 2 ^ j := by unfold qN; rw [opq_eq]
theorem rN_top {a b n : Nat} (h : a < 2 ^ n) : rN a b n = 0 := by rw [rN_def, Nat.div_eq_of_lt h, Nat.zero_mod]
theorem qN_top {a b n : Nat} (h : a < 2 ^ n) : qN a b n = 0 := by rw [qN_def, Nat.div_eq_of_lt h, Nat.zero_div, Nat.zero_mul]
theorem rN_zero {a b : Nat} (h : b ≠ 0) : rN a b 0 = rem0 a b := by rw [rN_def, rem0_pos h, Nat.pow_zero, Nat.div_one]
theorem qN_zero {a b : Nat} : qN a b 0 = quo0 a b := by rw [qN_def, quo0_def, Nat.pow_zero, Nat.div_one, Nat.mul_one]

theorem div_round (a b j : Nat) (hb : b ≠ 0) : ∃ bit S : Nat, bit < 2 ∧ S < 2 ∧ a / 2 ^ j % 2 = bit ∧ rN a b (j + 1) < b ∧ (2 * rN a b (j + 1) + bit) % b = rN a b j ∧ (2 * rN a b (j + 1) + bit) / b = S ∧ qN a b (j + 1) % 2 ^ (j + 1) = 0 ∧ qN a b (j + 1) + S * 2 ^ j = qN a b j := by
  have hA : a / 2 ^ j = 2 * (a / 2 ^ (j + 1)) + a / 2 ^ j % 2 := by
    rw [Nat.pow_succ, ← Nat.div_div_eq_div_mul]; omega
  rw [rN_def, rN_def, qN_def, qN_def]
  have hp : 2 ^ (j + 1) = 2 * 2 ^ j := by rw [Nat.pow_succ, Nat.mul_comm]
  generalize a / 2 ^ (j + 1) = A at *
  have hbit : a / 2 ^ j % 2 < 2 := Nat.mod_lt _ (by decide)
  generalize a / 2 ^ j % 2 = bit at *
  have hr : A % b < b := Nat.mod_lt _ (by omega)
  have e : a / 2 ^ j = b * (2 * (A / b)) + (2 * (A % b) + bit) := by
    rw [hA, Nat.mul_left_comm, ← Nat.add_assoc, ← Nat.mul_add, Nat.div_add_mod]
  have hS : (2 * (A % b) + bit) / b < 2 := by rw [Nat.div_lt_iff_lt_mul (by omega)]; omega
  refine ⟨bit, _, hbit, hS, rfl, hr, ?_, rfl, Nat.mul_mod_left _ _, ?_⟩
  · rw [e, Nat.mul_add_mod]
  · rw [e, Nat.mul_add_div (by omega), hp, Nat.add_mul]
    congr 1
    rw [← Nat.mul_assoc, Nat.mul_comm (A / b) 2]
theorem wd_setbit (Q S j i : Nat) (hS : S < 2) (hQ : Q % 2 ^ (j + 1) = 0) (hj : j / 64 ≠ i) : wd (Q + S * 2 ^ j) i = wd Q i := by
  rw [wd_def, wd_def]
  obtain ⟨t, rfl⟩ := Nat.dvd_of_mod_eq_zero hQ
  have pw : 18446744073709551616 ^ i = 2 ^ (64 * i) := by rw [Nat.pow_mul]
  rw [pw]
  rcases Nat.lt_or_gt_of_ne hj with h | h
  · obtain ⟨k, hk⟩ : ∃ k, 64 * i = (j + 1) + k := ⟨64 * i - (j + 1), by omega⟩
    have e : (2 ^ (j + 1) * t + S * 2 ^ j) / 2 ^ (j + 1) = t := by
      rw [Nat.mul_add_div (Nat.two_pow_pos _), Nat.div_eq_of_lt, Nat.add_zero]
      rw [Nat.pow_succ, Nat.mul_comm]
      exact Nat.mul_lt_mul_of_pos_left hS (Nat.two_pow_pos _)
    rw [hk, show 2 ^ (j + 1 + k) = 2 ^ (j + 1) * 2 ^ k from Nat.pow_add _ _ _, ← Nat.div_div_eq_div_mul, ← Nat.div_div_eq_div_mul, e, Nat.mul_div_cancel_left _ (Nat.two_pow_pos _)]
  · obtain ⟨k, hk⟩ : ∃ k, j = 64 * i + 64 + k := ⟨j - 64 * i - 64, by omega⟩
    have e : 2 ^ (j + 1) * t + S * 2 ^ j = 2 ^ (64 * i) * (2 ^ 64 * (2 ^ k * (2 * t + S))) := by
      have : 2 ^ j = 2 ^ (64 * i) * (2 ^ 64 * 2 ^ k) := by rw [hk, Nat.pow_add, Nat.pow_add, Nat.mul_assoc]
      rw [Nat.pow_succ, this]; grind
    have e2 : 2 ^ (j + 1) * t = 2 ^ (64 * i) * (2 ^ 64 * (2 ^ k * (2 * t))) := by
      have : 2 ^ j = 2 ^ (64 * i) * (2 ^ 64 * 2 ^ k) := by rw [hk, Nat.pow_add, Nat.pow_add, Nat.mul_assoc]
      rw [Nat.pow_succ, this]; grind
    rw [e, e2, Nat.mul_div_cancel_left _ (Nat.two_pow_pos _), Nat.mul_div_cancel_left _ (Nat.two_pow_pos _), show (18446744073709551616 : Nat) = 2 ^ 64 from rfl, Nat.mul_mod_right, Nat.mul_mod_right]
theorem wd_setbit_at (Q S j i : Nat) (hS : S < 2) (hQ : Q % 2 ^ (j + 1) = 0) (hj : j / 64 = i) : bits BinOp.or IntKind.u64 (wd Q i) (IntKind.u64.wrap ((S : Int) * 2 ^ (j % 64))) = wd (Q + S * 2 ^ j) i := by
  rw [wd_def, wd_def]
  obtain ⟨t, rfl⟩ := Nat.dvd_of_mod_eq_zero hQ
  have pw : 18446744073709551616 ^ i = 2 ^ (64 * i) := by rw [Nat.pow_mul]
  have e0 : j = 64 * i + j % 64 := by omega
  have l : j % 64 < 64 := Nat.mod_lt _ (by decide)
  generalize j % 64 = e at *
  subst e0
  have hp : 2 ^ (64 * i + e + 1) = 2 ^ (64 * i) * 2 ^ (e + 1) := by rw [Nat.add_assoc, Nat.pow_add]
  have hp2 : 2 ^ (64 * i + e) = 2 ^ (64 * i) * 2 ^ e := by rw [Nat.pow_add]
  have es : S * 2 ^ e < 2 ^ (e + 1) := by
    rw [Nat.pow_succ, Nat.mul_comm]
    exact Nat.mul_lt_mul_of_pos_left hS (Nat.two_pow_pos _)
  have el : 2 ^ (e + 1) ∣ 2 ^ 64 := Nat.pow_dvd_pow 2 (by omega)
  have ew : S * 2 ^ e < 2 ^ 64 := Nat.lt_of_lt_of_le es (Nat.le_of_dvd (by decide) el)
  have c : IntKind.u64.wrap ((S : Int) * 2 ^ e) = ((S * 2 ^ e : Nat) : Int) := by
    rw [IntKind.wrap_u64]
    have : ((S : Int) * 2 ^ e) = ((S * 2 ^ e : Nat) : Int) := by simp
    rw [this]
    omega
  have d1 : 2 ^ (64 * i) * 2 ^ (e + 1) * t / 2 ^ (64 * i) = 2 ^ (e + 1) * t := by rw [Nat.mul_assoc, Nat.mul_div_cancel_left _ (Nat.two_pow_pos _)]
  have d2 : (2 ^ (64 * i) * 2 ^ (e + 1) * t + S * (2 ^ (64 * i) * 2 ^ e)) / 2 ^ (64 * i) = 2 ^ (e + 1) * t + S * 2 ^ e := by
    rw [show 2 ^ (64 * i) * 2 ^ (e + 1) * t + S * (2 ^ (64 * i) * 2 ^ e) = 2 ^ (64 * i) * (2 ^ (e + 1) * t + S * 2 ^ e) by grind, Nat.mul_div_cancel_left _ (Nat.two_pow_pos _)]
  rw [pw, hp, hp2, c, d1, d2]
  obtain ⟨g, hg⟩ := el
  have m1 : 2 ^ (e + 1) * t % 18446744073709551616 = 2 ^ (e + 1) * (t % g) := by
    rw [show (18446744073709551616 : Nat) = 2 ^ 64 from rfl, hg, Nat.mul_mod_mul_left]
  have m2 : (2 ^ (e + 1) * t + S * 2 ^ e) % 18446744073709551616 = 2 ^ (e + 1) * (t % g) + S * 2 ^ e := by
    rw [show (18446744073709551616 : Nat) = 2 ^ 64 from rfl, hg, Nat.mod_mul, Nat.mul_add_div (Nat.two_pow_pos _), Nat.div_eq_of_lt es, Nat.mul_add_mod, Nat.mod_eq_of_lt es, Nat.add_zero]
    exact Nat.add_comm _ _
  rw [m1, m2, bits_or_u64_nat _ _ (by rw [← m1]; exact Nat.mod_lt _ (by decide)) ew, Nat.two_pow_add_eq_or_of_lt es]
/-- A bit set in a number whose low bits are 0. -/
theorem nl_setbit (Q S j : Nat) (hj : j < 256) (hS : S < 2) (hQ : Q % 2 ^ (j + 1) = 0) :
    (nl Q).set (j / 64) (.int .u64 (bits BinOp.or IntKind.u64 (wd Q (j / 64)) (IntKind.u64.wrap ((S : Int) * 2 ^ (j % 64))))) = nl (Q + S * 2 ^ j) := by
  rw [wd_setbit_at Q S j _ hS hQ rfl]
  have k : ∀ i, j / 64 ≠ i → wd (Q + S * 2 ^ j) i = wd Q i := fun i => wd_setbit Q S j i hS hQ
  have : j / 64 = 0 ∨ j / 64 = 1 ∨ j / 64 = 2 ∨ j / 64 = 3 := by omega
  rcases this with h | h | h | h <;> rw [h] at k ⊢ <;> unfold nl <;> simp only [kA, kB]
  · rw [k 1 (by decide), k 2 (by decide), k 3 (by decide)]
  · rw [k 0 (by decide), k 2 (by decide), k 3 (by decide)]
  · rw [k 0 (by decide), k 1 (by decide), k 3 (by decide)]
  · rw [k 0 (by decide), k 1 (by decide), k 2 (by decide)]

set_option maxRecDepth 100000 in
set_option maxHeartbeats 4000000 in
theorem div_long (a b : Nat) (ha : a < B) (hb : b < B) (hs : ¬ b < 18446744073709551616) (w : World) : Calls Try.prog 17 #[num a, num b] w fun e w' =>
    e = .returned (.tuple #[num (quo0 a b), num (rem0 a b), .int .i64 0]) ∧ Below w.heap.size w w' := by
  have h0 : b ≠ 0 := by omega
  have z := eqN_no hb B_pos h0
  have cb := bits_any a ha
  have hn1 : blen a ≤ 256 := (blen_le_iff _ _).mpr (by rw [B_eq] at ha; exact ha)
  have hn2 := blen_lt a
  generalize blen a = n at *
  have hR := Rep.init w
  go_enter Try.func17, Try.ntmps17
  go_wp2_with (first | (refine' wpList_boxRep hR rfl rfl rfl ?_; clear hR; intro blk w hR) | (refine' wpList_allocRep hR rfl rfl inferInstance ?_; clear hR; intro blk w hR) | (refine' wpList_loadAll hR rfl rfl rfl inferInstance ?hm ?hn ?_; (case hm => first | with_reducible assumption | repeat (first | exact .head _ | apply List.Mem.tail)); (case hn => first | rfl | (simp; done))) | (refine' wpList_loadRow hR rfl rfl rfl inferInstance ?hm ?hv ?hn ?_; (case hm => first | with_reducible assumption | repeat (first | exact .head _ | apply List.Mem.tail)); (case hv => first | with_reducible assumption | (simp only [kC, kD, kE, kF]; first | done | rfl)); (case hn => first | rfl | (simp; done))) | (refine' wpList_loadCell hR rfl rfl rfl inferInstance ?hm ?hv ?_; (case hm => first | with_reducible assumption | repeat (first | exact .head _ | apply List.Mem.tail)); (case hv => first | rfl | with_reducible assumption)) | (refine' wpList_storeAll hR rfl rfl rfl inferInstance rfl ?hs ?zone ?zvn ?hn ?_; (case hs => repeat (first | exact SetAt.head | apply SetAt.tail)); (case zone => first | rfl | with_reducible assumption); (case zvn => first | rfl | (simp; done)); (case hn => first | rfl | (simp; done)); clear hR; intro w hR) | (refine' wpList_storeCell hR rfl rfl rfl inferInstance rfl rfl ?hs ?hn ?hl ?_; (case hs => repeat (first | exact SetAt.head | apply SetAt.tail)); (case hn => first | exact of_decide_eq_true rfl | (show _ < 4; with_reducible assumption) | (simp; first | done | omega)); (case hl => first | with_reducible assumption | (simp only [nl, kA, kB]; first | done | rfl) | rfl); clear hR; intro w hR) | (go_at_call 72; refine (short_any b hb _).mono ?_; rintro e w ⟨rfl, hb⟩; replace hR := hR.call hb; clear hb) | (go_at_call 69; refine (cb _).mono ?_; rintro e w ⟨rfl, hb⟩; replace hR := hR.call hb; clear hb))
  rename_i b1 _ b2 _ b3 _ _ _ K0 k0
  refine' loop_rep (false :: false :: false :: false :: false :: false :: false :: false :: false :: true :: true :: true :: false :: false :: false :: false :: false :: false :: false :: false :: false :: false :: false :: false :: false :: false :: false :: false :: false :: false :: false :: false :: false :: false :: false :: false :: false :: false :: false :: false :: false :: false :: false :: false :: false :: true :: true :: true :: true :: true :: true :: true :: true :: true :: true :: true :: true :: true :: true :: true :: true :: true :: true :: true :: true :: true :: true :: true :: true :: true :: true :: false :: false :: []) (fun j l => l.set 44 (.int .i64 ((n : Int) - (j : Int)))) (fun j => [(blk, .cells (nl (rN a b j)).toArray 24), (b3, .cells (nl (qN a b j)).toArray 24), (b2, .cells (nl b).toArray 24), (b1, .cells (nl a).toArray 24)]) n ?h0 ?hR ?hs ?he
  case hR =>
    show Rep _ _ [(_, .cells (nl (rN a b n)).toArray _), (_, .cells (nl (qN a b n)).toArray _), _, _] _
    rw [rN_top hn2, qN_top hn2]
    rw [← nl_zero]
    exact hR
  case h0 =>
    simp only [Int.sub_self]
    exact agree_of rfl rfl rfl
  case hs =>
    clear hR k0
    intro j tm w hj ht hR K hK
    repeat (first | (obtain ⟨x, tm', e, ht'⟩ := agree_true ht; clear ht; subst e; have ht := ht'; clear ht') | (obtain ⟨tm', e, ht'⟩ := agree_false ht; clear ht; subst e; have ht := ht'; clear ht'))
    obtain rfl := agree_nil ht
    clear ht
    obtain ⟨bit, S, hbit, hS, ebit, hRb, er, eS, hQ, eq⟩ := div_round a b j h0
    have cbit := fun w => bit_any a (j : Int) ha w
    rw [bitN_nat a j (by omega), ebit] at cbit
    have cnext := fun w => next_any _ bit b hRb hb hbit w
    rw [er, eS] at cnext
    have hset := nl_setbit _ S j (by omega) hS hQ
    rw [eq] at hset
    clear ebit hRb er eS hQ eq cb hbit
    generalize rN a b (j + 1) = R at *
    generalize qN a b (j + 1) = Q at *
    generalize hk : (n : Int) - ((j + 1 : Nat) : Int) = k
    have k0 : 0 ≤ k := by omega
    have k1 : k < n := by omega
    have ki : (n : Int) - 1 - k = j := by omega
    have kn : k + 1 = (n : Int) - j := by omega
    clear hk
    have hv := nl_at Q (j / 64) (by omega)
    have l0 := wd_lo Q (j / 64)
    have l1 := wd_hi Q (j / 64)
    obtain ⟨x, hx⟩ : ∃ x, j / 64 = x := ⟨_, rfl⟩
    obtain ⟨y, hy⟩ : ∃ y, j % 64 = y := ⟨_, rfl⟩
    rw [hx, hy] at hset
    rw [hx] at hv l0 l1
    have e1 : (j : Int) / 64 = (x : Int) := by omega
    have e2 : IntKind.i64.wrap (x : Int) = (x : Int) := by rw [IntKind.wrap_i64]; omega
    have e3 : (j : Int).tmod 64 = (y : Int) := by rw [Int.tmod_eq_emod_of_nonneg (by omega)]; omega
    have e4 : (j : Int) % 64 = (y : Int) := by omega
    have e5 : IntKind.i64.wrap (y : Int) = (y : Int) := by rw [IntKind.wrap_i64]; omega
    have e6 : (x : Int) < 4 := by omega
    have e7 : (y : Int) < 64 := by omega
    have e8 : 0 ≤ (x : Int) := by omega
    have e9 : 0 ≤ (y : Int) := by omega
    have e10 : x < 4 := by omega
    clear hx hy
    go_wp2_with (first | (refine' wpList_boxRep hR rfl rfl rfl ?_; clear hR; intro blk w hR) | (refine' wpList_allocRep hR rfl rfl inferInstance ?_; clear hR; intro blk w hR) | (refine' wpList_loadAll hR rfl rfl rfl inferInstance ?hm ?hn ?_; (case hm => first | with_reducible assumption | repeat (first | exact .head _ | apply List.Mem.tail)); (case hn => first | rfl | (simp; done))) | (refine' wpList_loadRow hR rfl rfl rfl inferInstance ?hm ?hv ?hn ?_; (case hm => first | with_reducible assumption | repeat (first | exact .head _ | apply List.Mem.tail)); (case hv => first | with_reducible assumption | (simp only [kC, kD, kE, kF]; first | done | rfl)); (case hn => first | rfl | (simp; done))) | (refine' wpList_loadCell hR rfl rfl rfl inferInstance ?hm ?hv ?_; (case hm => first | with_reducible assumption | repeat (first | exact .head _ | apply List.Mem.tail)); (case hv => first | rfl | with_reducible assumption)) | (refine' wpList_storeAll hR rfl rfl rfl inferInstance rfl ?hs ?zone ?zvn ?hn ?_; (case hs => repeat (first | exact SetAt.head | apply SetAt.tail)); (case zone => first | rfl | with_reducible assumption); (case zvn => first | rfl | (simp; done)); (case hn => first | rfl | (simp; done)); clear hR; intro w hR) | (refine' wpList_storeCell hR rfl rfl rfl inferInstance rfl rfl ?hs ?hn ?hl ?_; (case hs => repeat (first | exact SetAt.head | apply SetAt.tail)); (case hn => first | exact of_decide_eq_true rfl | (show _ < 4; with_reducible assumption) | (simp; first | done | omega)); (case hl => first | with_reducible assumption | (simp only [nl, kA, kB]; first | done | rfl) | rfl); clear hR; intro w hR) | fail)
    refine wp_region_ord hR [0, 0, 0, 0, 0, 0, 0, 0, 1, 2, 2] [] mixed (by kernel_rfl) rfl rfl (fun K hK => ?_)
    clear hR
    repeat ((first | (refine hd_tail ?_) | (refine' hd_move (by decide) rfl (.inl rfl) rfl ?ha ?_) | (refine' hd_move (by decide) rfl (.inr rfl) rfl ?ha ?_) | (refine' hd_loadAll rfl rfl rfl inferInstance ?hm ?hn ?ha ?_; (case hm => first | with_reducible assumption | repeat (first | exact .head _ | apply List.Mem.tail)); (case hn => first | rfl | (simp; done))) | (refine' hd_loadRow rfl rfl rfl inferInstance ?hm ?hv ?hn ?ha ?_; (case hm => first | with_reducible assumption | repeat (first | exact .head _ | apply List.Mem.tail)); (case hv => first | with_reducible assumption | (simp only [kC, kD, kE, kF]; first | done | rfl)); (case hn => first | rfl | (simp; done))) | (refine' hd_loadCell rfl rfl rfl inferInstance ?hm ?hv ?ha ?_; (case hm => first | with_reducible assumption | repeat (first | exact .head _ | apply List.Mem.tail)); (case hv => first | rfl | with_reducible assumption)) | (refine' hd_keepRow rfl rfl rfl inferInstance ?hm ?hv ?hn ?ha ?_; (case hm => first | with_reducible assumption | repeat (first | exact .head _ | apply List.Mem.tail)); (case hv => first | with_reducible assumption | (simp only [kC, kD, kE, kF]; first | done | rfl)); (case hn => first | rfl | (simp; done))) | (refine' hd_keepCell rfl rfl rfl inferInstance ?hm ?hv ?ha ?_; (case hm => first | with_reducible assumption | repeat (first | exact .head _ | apply List.Mem.tail)); (case hv => first | rfl | with_reducible assumption)) | ((first | refine' hd_indexAddr (by decide) rfl rfl rfl rfl (fun w => ?hq) ?ha ?_ | refine' hd_binOp (by decide) rfl rfl rfl rfl (fun w => ?hq) ?ha ?_ | refine' hd_extract (by decide) rfl rfl rfl (fun w => ?hq) ?ha ?_ | refine' hd_fieldAddr (by decide) rfl rfl rfl (fun w => ?hq) ?ha ?_ | refine' hd_convert (by decide) rfl rfl rfl (fun w => ?hq) ?ha ?_ | refine' hd_index (by decide) rfl rfl rfl rfl (fun w => ?hq) ?ha ?_ | refine' hd_slice (by decide) rfl rfl rfl rfl rfl rfl (fun w => ?hq) ?ha ?_ | refine' hd_build (by decide) rfl rfl (fun w => ?hq) ?ha ?_ | refine' hd_arrayAt (by decide) rfl rfl rfl (fun w => ?hq) ?ha ?_ | refine' hd_field (by decide) rfl rfl rfl (fun w => ?hq) ?ha ?_); (case hq => go_simp; first | done | rfl)) | (refine' hd_nilCheck (by decide) rfl rfl rfl ?ha ?_) | (refine' hd_pick (by decide) rfl rfl rfl rfl ?ha ?_) | (refine' hd_skip (by decide) rfl ?ha ?_) | (refine' hd_call rfl rfl rfl (enters Try.func75 (by kernel_rfl) (by kernel_rfl) _) (fun w => cbit w) ?ha ?_) | (refine' hd_call rfl rfl rfl (enters Try.func74 (by kernel_rfl) (by kernel_rfl) _) (fun w => cnext w) ?ha ?_)); try (case ha => simp only [kP, kQ, kA, kB]; try rfl))
    refine hd_nil (hK _ _ ?_)
    clear hK K
    refine tl_gen (fun Q hQ => ?_)
    try simp only [List.nil_append, List.cons_append]
    repeat ((first | refine' tl_move rfl (.inl rfl) rfl ?hk ?ha ?_ | refine' tl_move rfl (.inr rfl) rfl ?hk ?ha ?_ | (refine' tl_storeAll rfl rfl rfl inferInstance rfl ?hs rfl rfl ?hn ?hk ?ha ?_; (case hs => repeat (first | exact SetAt.head | apply SetAt.tail)); (case hn => first | rfl | (simp; done))) | (refine' tl_storeCell rfl rfl rfl inferInstance rfl rfl ?hs ?hn ?hl ?hk ?ha ?_; (case hs => repeat (first | exact SetAt.head | apply SetAt.tail)); (case hn => first | exact of_decide_eq_true rfl | (show _ < 4; with_reducible assumption) | (simp; first | done | omega)); (case hl => first | with_reducible assumption | (simp only [nl, kA, kB]; first | done | rfl) | rfl)) | (refine' tl_storeRow rfl rfl rfl inferInstance rfl rfl ?hvn ?hs ?hn ?hl ?hk ?ha ?_; (case hvn => first | rfl | (simp; done)); (case hs => repeat (first | exact SetAt.head | apply SetAt.tail)); (case hn => first | exact of_decide_eq_true rfl | (show _ < 4; with_reducible assumption) | (simp; first | done | omega)); (case hl => first | with_reducible assumption | (simp only [nl, kA, kB]; first | done | rfl) | rfl)) | (refine' tl_pure rfl (fun w => ?hq) ?hk ?ha ?_; (case hq => go_simp; first | done | rfl))); (case hk => intro p hp; first | exact absurd hp List.not_mem_nil | (obtain rfl := List.mem_singleton.1 hp; repeat (first | exact List.Mem.head _ | apply List.Mem.tail))); (case ha => simp only [kP, kQ, kA, kB]; try rfl))
    refine tl_nil (fun w hR => hQ _ _ ?_)
    clear hQ Q
    go_wp2_with (first | (refine' wpList_boxRep hR rfl rfl rfl ?_; clear hR; intro blk w hR) | (refine' wpList_allocRep hR rfl rfl inferInstance ?_; clear hR; intro blk w hR) | (refine' wpList_loadAll hR rfl rfl rfl inferInstance ?hm ?hn ?_; (case hm => first | with_reducible assumption | repeat (first | exact .head _ | apply List.Mem.tail)); (case hn => first | rfl | (simp; done))) | (refine' wpList_loadRow hR rfl rfl rfl inferInstance ?hm ?hv ?hn ?_; (case hm => first | with_reducible assumption | repeat (first | exact .head _ | apply List.Mem.tail)); (case hv => first | with_reducible assumption | (simp only [kC, kD, kE, kF]; first | done | rfl)); (case hn => first | rfl | (simp; done))) | (refine' wpList_loadCell hR rfl rfl rfl inferInstance ?hm ?hv ?_; (case hm => first | with_reducible assumption | repeat (first | exact .head _ | apply List.Mem.tail)); (case hv => first | rfl | with_reducible assumption)) | (refine' wpList_storeAll hR rfl rfl rfl inferInstance rfl ?hs ?zone ?zvn ?hn ?_; (case hs => repeat (first | exact SetAt.head | apply SetAt.tail)); (case zone => first | rfl | with_reducible assumption); (case zvn => first | rfl | (simp; done)); (case hn => first | rfl | (simp; done)); clear hR; intro w hR) | (refine' wpList_storeCell hR rfl rfl rfl inferInstance rfl rfl ?hs ?hn ?hl ?_; (case hs => repeat (first | exact SetAt.head | apply SetAt.tail)); (case hn => first | exact of_decide_eq_true rfl | (show _ < 4; with_reducible assumption) | (simp; first | done | omega)); (case hl => first | with_reducible assumption | (simp only [nl, kA, kB]; first | done | rfl) | rfl); clear hR; intro w hR) | fail)
    refine wp_region_ord hR [0, 0, 0, 0, 0, 0, 0, 0, 0, 0, 2] [] mixed (by kernel_rfl) rfl rfl (fun K hK => ?_)
    clear hR
    repeat ((first | (refine hd_tail ?_) | (refine' hd_move (by decide) rfl (.inl rfl) rfl ?ha ?_) | (refine' hd_move (by decide) rfl (.inr rfl) rfl ?ha ?_) | (refine' hd_loadAll rfl rfl rfl inferInstance ?hm ?hn ?ha ?_; (case hm => first | with_reducible assumption | repeat (first | exact .head _ | apply List.Mem.tail)); (case hn => first | rfl | (simp; done))) | (refine' hd_loadRow rfl rfl rfl inferInstance ?hm ?hv ?hn ?ha ?_; (case hm => first | with_reducible assumption | repeat (first | exact .head _ | apply List.Mem.tail)); (case hv => first | with_reducible assumption | (simp only [kC, kD, kE, kF]; first | done | rfl)); (case hn => first | rfl | (simp; done))) | (refine' hd_loadCell rfl rfl rfl inferInstance ?hm ?hv ?ha ?_; (case hm => first | with_reducible assumption | repeat (first | exact .head _ | apply List.Mem.tail)); (case hv => first | rfl | with_reducible assumption)) | (refine' hd_keepRow rfl rfl rfl inferInstance ?hm ?hv ?hn ?ha ?_; (case hm => first | with_reducible assumption | repeat (first | exact .head _ | apply List.Mem.tail)); (case hv => first | with_reducible assumption | (simp only [kC, kD, kE, kF]; first | done | rfl)); (case hn => first | rfl | (simp; done))) | (refine' hd_keepCell rfl rfl rfl inferInstance ?hm ?hv ?ha ?_; (case hm => first | with_reducible assumption | repeat (first | exact .head _ | apply List.Mem.tail)); (case hv => first | rfl | with_reducible assumption)) | ((first | refine' hd_indexAddr (by decide) rfl rfl rfl rfl (fun w => ?hq) ?ha ?_ | refine' hd_binOp (by decide) rfl rfl rfl rfl (fun w => ?hq) ?ha ?_ | refine' hd_extract (by decide) rfl rfl rfl (fun w => ?hq) ?ha ?_ | refine' hd_fieldAddr (by decide) rfl rfl rfl (fun w => ?hq) ?ha ?_ | refine' hd_convert (by decide) rfl rfl rfl (fun w => ?hq) ?ha ?_ | refine' hd_index (by decide) rfl rfl rfl rfl (fun w => ?hq) ?ha ?_ | refine' hd_slice (by decide) rfl rfl rfl rfl rfl rfl (fun w => ?hq) ?ha ?_ | refine' hd_build (by decide) rfl rfl (fun w => ?hq) ?ha ?_ | refine' hd_arrayAt (by decide) rfl rfl rfl (fun w => ?hq) ?ha ?_ | refine' hd_field (by decide) rfl rfl rfl (fun w => ?hq) ?ha ?_); (case hq => go_simp; first | done | rfl)) | (refine' hd_nilCheck (by decide) rfl rfl rfl ?ha ?_) | (refine' hd_pick (by decide) rfl rfl rfl rfl ?ha ?_) | (refine' hd_skip (by decide) rfl ?ha ?_) | fail); try (case ha => simp only [kP, kQ, kA, kB]; try rfl))
    refine hd_nil (hK _ _ ?_)
    clear hK K
    refine tl_gen (fun Q hQ => ?_)
    try simp only [List.nil_append, List.cons_append]
    repeat ((first | refine' tl_move rfl (.inl rfl) rfl ?hk ?ha ?_ | refine' tl_move rfl (.inr rfl) rfl ?hk ?ha ?_ | (refine' tl_storeAll rfl rfl rfl inferInstance rfl ?hs rfl rfl ?hn ?hk ?ha ?_; (case hs => repeat (first | exact SetAt.head | apply SetAt.tail)); (case hn => first | rfl | (simp; done))) | (refine' tl_storeCell rfl rfl rfl inferInstance rfl rfl ?hs ?hn ?hl ?hk ?ha ?_; (case hs => repeat (first | exact SetAt.head | apply SetAt.tail)); (case hn => first | exact of_decide_eq_true rfl | (show _ < 4; with_reducible assumption) | (simp; first | done | omega)); (case hl => first | with_reducible assumption | (simp only [nl, kA, kB]; first | done | rfl) | rfl)) | (refine' tl_storeRow rfl rfl rfl inferInstance rfl rfl ?hvn ?hs ?hn ?hl ?hk ?ha ?_; (case hvn => first | rfl | (simp; done)); (case hs => repeat (first | exact SetAt.head | apply SetAt.tail)); (case hn => first | exact of_decide_eq_true rfl | (show _ < 4; with_reducible assumption) | (simp; first | done | omega)); (case hl => first | with_reducible assumption | (simp only [nl, kA, kB]; first | done | rfl) | rfl)) | (refine' tl_pure rfl (fun w => ?hq) ?hk ?ha ?_; (case hq => go_simp; first | done | rfl))); (case hk => intro p hp; first | exact absurd hp List.not_mem_nil | (obtain rfl := List.mem_singleton.1 hp; repeat (first | exact List.Mem.head _ | apply List.Mem.tail))); (case ha => simp only [kP, kQ, kA, kB]; try rfl))
    refine tl_nil (fun w hR => hQ _ _ ?_)
    clear hQ Q
    go_wp2_with (first | (refine' wpList_boxRep hR rfl rfl rfl ?_; clear hR; intro blk w hR) | (refine' wpList_allocRep hR rfl rfl inferInstance ?_; clear hR; intro blk w hR) | (refine' wpList_loadAll hR rfl rfl rfl inferInstance ?hm ?hn ?_; (case hm => first | with_reducible assumption | repeat (first | exact .head _ | apply List.Mem.tail)); (case hn => first | rfl | (simp; done))) | (refine' wpList_loadRow hR rfl rfl rfl inferInstance ?hm ?hv ?hn ?_; (case hm => first | with_reducible assumption | repeat (first | exact .head _ | apply List.Mem.tail)); (case hv => first | with_reducible assumption | (simp only [kC, kD, kE, kF]; first | done | rfl)); (case hn => first | rfl | (simp; done))) | (refine' wpList_loadCell hR rfl rfl rfl inferInstance ?hm ?hv ?_; (case hm => first | with_reducible assumption | repeat (first | exact .head _ | apply List.Mem.tail)); (case hv => first | rfl | with_reducible assumption)) | (refine' wpList_storeAll hR rfl rfl rfl inferInstance rfl ?hs ?zone ?zvn ?hn ?_; (case hs => repeat (first | exact SetAt.head | apply SetAt.tail)); (case zone => first | rfl | with_reducible assumption); (case zvn => first | rfl | (simp; done)); (case hn => first | rfl | (simp; done)); clear hR; intro w hR) | (refine' wpList_storeCell hR rfl rfl rfl inferInstance rfl rfl ?hs ?hn ?hl ?_; (case hs => repeat (first | exact SetAt.head | apply SetAt.tail)); (case hn => first | exact of_decide_eq_true rfl | (show _ < 4; with_reducible assumption) | (simp; first | done | omega)); (case hl => first | with_reducible assumption | (simp only [nl, kA, kB]; first | done | rfl) | rfl); clear hR; intro w hR) | fail)
    exact hK.out _ _ (agree_of rfl rfl rfl) hR
  case he =>
    clear hR
    intro tm w ht hR K
    simp only [Int.natCast_zero, Int.sub_zero] at ht
    repeat (first | (obtain ⟨x, tm', e, ht'⟩ := agree_true ht; clear ht; subst e; have ht := ht'; clear ht') | (obtain ⟨tm', e, ht'⟩ := agree_false ht; clear ht; subst e; have ht := ht'; clear ht'))
    obtain rfl := agree_nil ht
    clear ht
    rw [rN_zero h0, qN_zero] at hR
    go_wp2_with (first | (refine' wpList_boxRep hR rfl rfl rfl ?_; clear hR; intro blk w hR) | (refine' wpList_allocRep hR rfl rfl inferInstance ?_; clear hR; intro blk w hR) | (refine' wpList_loadAll hR rfl rfl rfl inferInstance ?hm ?hn ?_; (case hm => first | with_reducible assumption | repeat (first | exact .head _ | apply List.Mem.tail)); (case hn => first | rfl | (simp; done))) | (refine' wpList_loadRow hR rfl rfl rfl inferInstance ?hm ?hv ?hn ?_; (case hm => first | with_reducible assumption | repeat (first | exact .head _ | apply List.Mem.tail)); (case hv => first | with_reducible assumption | (simp only [kC, kD, kE, kF]; first | done | rfl)); (case hn => first | rfl | (simp; done))) | (refine' wpList_loadCell hR rfl rfl rfl inferInstance ?hm ?hv ?_; (case hm => first | with_reducible assumption | repeat (first | exact .head _ | apply List.Mem.tail)); (case hv => first | rfl | with_reducible assumption)) | (refine' wpList_storeAll hR rfl rfl rfl inferInstance rfl ?hs ?zone ?zvn ?hn ?_; (case hs => repeat (first | exact SetAt.head | apply SetAt.tail)); (case zone => first | rfl | with_reducible assumption); (case zvn => first | rfl | (simp; done)); (case hn => first | rfl | (simp; done)); clear hR; intro w hR) | (refine' wpList_storeCell hR rfl rfl rfl inferInstance rfl rfl ?hs ?hn ?hl ?_; (case hs => repeat (first | exact SetAt.head | apply SetAt.tail)); (case hn => first | exact of_decide_eq_true rfl | (show _ < 4; with_reducible assumption) | (simp; first | done | omega)); (case hl => first | with_reducible assumption | (simp only [nl, kA, kB]; first | done | rfl) | rfl); clear hR; intro w hR) | fail)
    refine wp_region_ord hR [0, 1, 2, 2, 2] [0] mixed (by kernel_rfl) rfl rfl (fun K hK => ?_)
    clear hR
    repeat ((first | (refine hd_tail ?_) | (refine' hd_move (by decide) rfl (.inl rfl) rfl ?ha ?_) | (refine' hd_move (by decide) rfl (.inr rfl) rfl ?ha ?_) | (refine' hd_loadAll rfl rfl rfl inferInstance ?hm ?hn ?ha ?_; (case hm => first | with_reducible assumption | repeat (first | exact .head _ | apply List.Mem.tail)); (case hn => first | rfl | (simp; done))) | (refine' hd_loadRow rfl rfl rfl inferInstance ?hm ?hv ?hn ?ha ?_; (case hm => first | with_reducible assumption | repeat (first | exact .head _ | apply List.Mem.tail)); (case hv => first | with_reducible assumption | (simp only [kC, kD, kE, kF]; first | done | rfl)); (case hn => first | rfl | (simp; done))) | (refine' hd_loadCell rfl rfl rfl inferInstance ?hm ?hv ?ha ?_; (case hm => first | with_reducible assumption | repeat (first | exact .head _ | apply List.Mem.tail)); (case hv => first | rfl | with_reducible assumption)) | (refine' hd_keepRow rfl rfl rfl inferInstance ?hm ?hv ?hn ?ha ?_; (case hm => first | with_reducible assumption | repeat (first | exact .head _ | apply List.Mem.tail)); (case hv => first | with_reducible assumption | (simp only [kC, kD, kE, kF]; first | done | rfl)); (case hn => first | rfl | (simp; done))) | (refine' hd_keepCell rfl rfl rfl inferInstance ?hm ?hv ?ha ?_; (case hm => first | with_reducible assumption | repeat (first | exact .head _ | apply List.Mem.tail)); (case hv => first | rfl | with_reducible assumption)) | ((first | refine' hd_indexAddr (by decide) rfl rfl rfl rfl (fun w => ?hq) ?ha ?_ | refine' hd_binOp (by decide) rfl rfl rfl rfl (fun w => ?hq) ?ha ?_ | refine' hd_extract (by decide) rfl rfl rfl (fun w => ?hq) ?ha ?_ | refine' hd_fieldAddr (by decide) rfl rfl rfl (fun w => ?hq) ?ha ?_ | refine' hd_convert (by decide) rfl rfl rfl (fun w => ?hq) ?ha ?_ | refine' hd_index (by decide) rfl rfl rfl rfl (fun w => ?hq) ?ha ?_ | refine' hd_slice (by decide) rfl rfl rfl rfl rfl rfl (fun w => ?hq) ?ha ?_ | refine' hd_build (by decide) rfl rfl (fun w => ?hq) ?ha ?_ | refine' hd_arrayAt (by decide) rfl rfl rfl (fun w => ?hq) ?ha ?_ | refine' hd_field (by decide) rfl rfl rfl (fun w => ?hq) ?ha ?_); (case hq => go_simp; first | done | rfl)) | (refine' hd_nilCheck (by decide) rfl rfl rfl ?ha ?_) | (refine' hd_pick (by decide) rfl rfl rfl rfl ?ha ?_) | (refine' hd_skip (by decide) rfl ?ha ?_) | fail); try (case ha => simp only [kP, kQ, kA, kB]; try rfl))
    refine hd_nil (hK _ _ ?_)
    clear hK K
    refine tl_gen (fun Q hQ => ?_)
    try simp only [List.nil_append, List.cons_append]
    repeat ((first | refine' tl_move rfl (.inl rfl) rfl ?hk ?ha ?_ | refine' tl_move rfl (.inr rfl) rfl ?hk ?ha ?_ | (refine' tl_storeAll rfl rfl rfl inferInstance rfl ?hs rfl rfl ?hn ?hk ?ha ?_; (case hs => repeat (first | exact SetAt.head | apply SetAt.tail)); (case hn => first | rfl | (simp; done))) | (refine' tl_storeCell rfl rfl rfl inferInstance rfl rfl ?hs ?hn ?hl ?hk ?ha ?_; (case hs => repeat (first | exact SetAt.head | apply SetAt.tail)); (case hn => first | exact of_decide_eq_true rfl | (show _ < 4; with_reducible assumption) | (simp; first | done | omega)); (case hl => first | with_reducible assumption | (simp only [nl, kA, kB]; first | done | rfl) | rfl)) | (refine' tl_storeRow rfl rfl rfl inferInstance rfl rfl ?hvn ?hs ?hn ?hl ?hk ?ha ?_; (case hvn => first | rfl | (simp; done)); (case hs => repeat (first | exact SetAt.head | apply SetAt.tail)); (case hn => first | exact of_decide_eq_true rfl | (show _ < 4; with_reducible assumption) | (simp; first | done | omega)); (case hl => first | with_reducible assumption | (simp only [nl, kA, kB]; first | done | rfl) | rfl)) | (refine' tl_pure rfl (fun w => ?hq) ?hk ?ha ?_; (case hq => go_simp; first | done | rfl))); (case hk => intro p hp; first | exact absurd hp List.not_mem_nil | (obtain rfl := List.mem_singleton.1 hp; repeat (first | exact List.Mem.head _ | apply List.Mem.tail))); (case ha => simp only [kP, kQ, kA, kB]; try rfl))
    refine tl_nil (fun w hR => hQ _ _ ?_)
    clear hQ Q
    go_wp2_with (first | (refine' wpList_boxRep hR rfl rfl rfl ?_; clear hR; intro blk w hR) | (refine' wpList_allocRep hR rfl rfl inferInstance ?_; clear hR; intro blk w hR) | (refine' wpList_loadAll hR rfl rfl rfl inferInstance ?hm ?hn ?_; (case hm => first | with_reducible assumption | repeat (first | exact .head _ | apply List.Mem.tail)); (case hn => first | rfl | (simp; done))) | (refine' wpList_loadRow hR rfl rfl rfl inferInstance ?hm ?hv ?hn ?_; (case hm => first | with_reducible assumption | repeat (first | exact .head _ | apply List.Mem.tail)); (case hv => first | with_reducible assumption | (simp only [kC, kD, kE, kF]; first | done | rfl)); (case hn => first | rfl | (simp; done))) | (refine' wpList_loadCell hR rfl rfl rfl inferInstance ?hm ?hv ?_; (case hm => first | with_reducible assumption | repeat (first | exact .head _ | apply List.Mem.tail)); (case hv => first | rfl | with_reducible assumption)) | (refine' wpList_storeAll hR rfl rfl rfl inferInstance rfl ?hs ?zone ?zvn ?hn ?_; (case hs => repeat (first | exact SetAt.head | apply SetAt.tail)); (case zone => first | rfl | with_reducible assumption); (case zvn => first | rfl | (simp; done)); (case hn => first | rfl | (simp; done)); clear hR; intro w hR) | (refine' wpList_storeCell hR rfl rfl rfl inferInstance rfl rfl ?hs ?hn ?hl ?_; (case hs => repeat (first | exact SetAt.head | apply SetAt.tail)); (case hn => first | exact of_decide_eq_true rfl | (show _ < 4; with_reducible assumption) | (simp; first | done | omega)); (case hl => first | with_reducible assumption | (simp only [nl, kA, kB]; first | done | rfl) | rfl); clear hR; intro w hR) | fail)
    (refine' bodyPost_ret (results_ccr Try.results17 rfl (hR.loadAll (P := Try.prog) (ty := 24) ?hm ?hn) rfl (hR.loadAll (P := Try.prog) (ty := 24) ?hm2 ?hn2)) rfl ⟨?_, hR.below⟩; (case hm => first | with_reducible assumption | repeat (first | exact .head _ | apply List.Mem.tail)); (case hn => first | rfl | (simp; done)); (case hm2 => first | with_reducible assumption | repeat (first | exact .head _ | apply List.Mem.tail)); (case hn2 => first | rfl | (simp; done)))
    rfl

set_option maxRecDepth 100000 in
set_option maxHeartbeats 4000000 in
theorem div_none (a : Nat) (ha : a < B) (w : World) : Calls Try.prog 17 #[num a, num 0] w fun e w' =>
    e = .returned (.tuple #[num 0, num 0, .int .i64 1]) ∧ Below w.heap.size w w' := by
  have z := eqN_self 0
  have hR := Rep.init w
  go_enter Try.func17, Try.ntmps17
  go_wp2_with (first | (refine' wpList_boxRep hR rfl rfl rfl ?_; clear hR; intro blk w hR) | (refine' wpList_allocRep hR rfl rfl inferInstance ?_; clear hR; intro blk w hR) | (refine' wpList_loadAll hR rfl rfl rfl inferInstance ?hm ?hn ?_; (case hm => first | with_reducible assumption | repeat (first | exact .head _ | apply List.Mem.tail)); (case hn => first | rfl | (simp; done))) | (refine' wpList_loadRow hR rfl rfl rfl inferInstance ?hm ?hv ?hn ?_; (case hm => first | with_reducible assumption | repeat (first | exact .head _ | apply List.Mem.tail)); (case hv => first | with_reducible assumption | (simp only [kC, kD, kE, kF]; first | done | rfl)); (case hn => first | rfl | (simp; done))) | (refine' wpList_loadCell hR rfl rfl rfl inferInstance ?hm ?hv ?_; (case hm => first | with_reducible assumption | repeat (first | exact .head _ | apply List.Mem.tail)); (case hv => first | rfl | with_reducible assumption)) | (refine' wpList_storeAll hR rfl rfl rfl inferInstance rfl ?hs ?zone ?zvn ?hn ?_; (case hs => repeat (first | exact SetAt.head | apply SetAt.tail)); (case zone => first | rfl | with_reducible assumption); (case zvn => first | rfl | (simp; done)); (case hn => first | rfl | (simp; done)); clear hR; intro w hR) | (refine' wpList_storeCell hR rfl rfl rfl inferInstance rfl rfl ?hs ?hn ?hl ?_; (case hs => repeat (first | exact SetAt.head | apply SetAt.tail)); (case hn => first | exact of_decide_eq_true rfl | (show _ < 4; with_reducible assumption) | (simp; first | done | omega)); (case hl => first | with_reducible assumption | (simp only [nl, kA, kB]; first | done | rfl) | rfl); clear hR; intro w hR) | fail)
  refine wp_region_ord hR [0, 1, 2, 2, 2] [0] mixed (by kernel_rfl) rfl rfl (fun K hK => ?_)
  clear hR
  repeat ((first | (refine hd_tail ?_) | (refine' hd_move (by decide) rfl (.inl rfl) rfl ?ha ?_) | (refine' hd_move (by decide) rfl (.inr rfl) rfl ?ha ?_) | (refine' hd_loadAll rfl rfl rfl inferInstance ?hm ?hn ?ha ?_; (case hm => first | with_reducible assumption | repeat (first | exact .head _ | apply List.Mem.tail)); (case hn => first | rfl | (simp; done))) | (refine' hd_loadRow rfl rfl rfl inferInstance ?hm ?hv ?hn ?ha ?_; (case hm => first | with_reducible assumption | repeat (first | exact .head _ | apply List.Mem.tail)); (case hv => first | with_reducible assumption | (simp only [kC, kD, kE, kF]; first | done | rfl)); (case hn => first | rfl | (simp; done))) | (refine' hd_loadCell rfl rfl rfl inferInstance ?hm ?hv ?ha ?_; (case hm => first | with_reducible assumption | repeat (first | exact .head _ | apply List.Mem.tail)); (case hv => first | rfl | with_reducible assumption)) | (refine' hd_keepRow rfl rfl rfl inferInstance ?hm ?hv ?hn ?ha ?_; (case hm => first | with_reducible assumption | repeat (first | exact .head _ | apply List.Mem.tail)); (case hv => first | with_reducible assumption | (simp only [kC, kD, kE, kF]; first | done | rfl)); (case hn => first | rfl | (simp; done))) | (refine' hd_keepCell rfl rfl rfl inferInstance ?hm ?hv ?ha ?_; (case hm => first | with_reducible assumption | repeat (first | exact .head _ | apply List.Mem.tail)); (case hv => first | rfl | with_reducible assumption)) | ((first | refine' hd_indexAddr (by decide) rfl rfl rfl rfl (fun w => ?hq) ?ha ?_ | refine' hd_binOp (by decide) rfl rfl rfl rfl (fun w => ?hq) ?ha ?_ | refine' hd_extract (by decide) rfl rfl rfl (fun w => ?hq) ?ha ?_ | refine' hd_fieldAddr (by decide) rfl rfl rfl (fun w => ?hq) ?ha ?_ | refine' hd_convert (by decide) rfl rfl rfl (fun w => ?hq) ?ha ?_ | refine' hd_index (by decide) rfl rfl rfl rfl (fun w => ?hq) ?ha ?_ | refine' hd_slice (by decide) rfl rfl rfl rfl rfl rfl (fun w => ?hq) ?ha ?_ | refine' hd_build (by decide) rfl rfl (fun w => ?hq) ?ha ?_ | refine' hd_arrayAt (by decide) rfl rfl rfl (fun w => ?hq) ?ha ?_ | refine' hd_field (by decide) rfl rfl rfl (fun w => ?hq) ?ha ?_); (case hq => go_simp; first | done | rfl)) | (refine' hd_nilCheck (by decide) rfl rfl rfl ?ha ?_) | (refine' hd_pick (by decide) rfl rfl rfl rfl ?ha ?_) | (refine' hd_skip (by decide) rfl ?ha ?_) | fail); try (case ha => simp only [kP, kQ, kA, kB]; try rfl))
  refine hd_nil (hK _ _ ?_)
  clear hK K
  refine tl_gen (fun Q hQ => ?_)
  try simp only [List.nil_append, List.cons_append]
  repeat ((first | refine' tl_move rfl (.inl rfl) rfl ?hk ?ha ?_ | refine' tl_move rfl (.inr rfl) rfl ?hk ?ha ?_ | (refine' tl_storeAll rfl rfl rfl inferInstance rfl ?hs rfl rfl ?hn ?hk ?ha ?_; (case hs => repeat (first | exact SetAt.head | apply SetAt.tail)); (case hn => first | rfl | (simp; done))) | (refine' tl_storeCell rfl rfl rfl inferInstance rfl rfl ?hs ?hn ?hl ?hk ?ha ?_; (case hs => repeat (first | exact SetAt.head | apply SetAt.tail)); (case hn => first | exact of_decide_eq_true rfl | (show _ < 4; with_reducible assumption) | (simp; first | done | omega)); (case hl => first | with_reducible assumption | (simp only [nl, kA, kB]; first | done | rfl) | rfl)) | (refine' tl_storeRow rfl rfl rfl inferInstance rfl rfl ?hvn ?hs ?hn ?hl ?hk ?ha ?_; (case hvn => first | rfl | (simp; done)); (case hs => repeat (first | exact SetAt.head | apply SetAt.tail)); (case hn => first | exact of_decide_eq_true rfl | (show _ < 4; with_reducible assumption) | (simp; first | done | omega)); (case hl => first | with_reducible assumption | (simp only [nl, kA, kB]; first | done | rfl) | rfl)) | (refine' tl_pure rfl (fun w => ?hq) ?hk ?ha ?_; (case hq => go_simp; first | done | rfl))); (case hk => intro p hp; first | exact absurd hp List.not_mem_nil | (obtain rfl := List.mem_singleton.1 hp; repeat (first | exact List.Mem.head _ | apply List.Mem.tail))); (case ha => simp only [kP, kQ, kA, kB]; try rfl))
  refine tl_nil (fun w hR => hQ _ _ ?_)
  clear hQ Q
  go_wp2_with (first | (refine' wpList_boxRep hR rfl rfl rfl ?_; clear hR; intro blk w hR) | (refine' wpList_allocRep hR rfl rfl inferInstance ?_; clear hR; intro blk w hR) | (refine' wpList_loadAll hR rfl rfl rfl inferInstance ?hm ?hn ?_; (case hm => first | with_reducible assumption | repeat (first | exact .head _ | apply List.Mem.tail)); (case hn => first | rfl | (simp; done))) | (refine' wpList_loadRow hR rfl rfl rfl inferInstance ?hm ?hv ?hn ?_; (case hm => first | with_reducible assumption | repeat (first | exact .head _ | apply List.Mem.tail)); (case hv => first | with_reducible assumption | (simp only [kC, kD, kE, kF]; first | done | rfl)); (case hn => first | rfl | (simp; done))) | (refine' wpList_loadCell hR rfl rfl rfl inferInstance ?hm ?hv ?_; (case hm => first | with_reducible assumption | repeat (first | exact .head _ | apply List.Mem.tail)); (case hv => first | rfl | with_reducible assumption)) | (refine' wpList_storeAll hR rfl rfl rfl inferInstance rfl ?hs ?zone ?zvn ?hn ?_; (case hs => repeat (first | exact SetAt.head | apply SetAt.tail)); (case zone => first | rfl | with_reducible assumption); (case zvn => first | rfl | (simp; done)); (case hn => first | rfl | (simp; done)); clear hR; intro w hR) | (refine' wpList_storeCell hR rfl rfl rfl inferInstance rfl rfl ?hs ?hn ?hl ?_; (case hs => repeat (first | exact SetAt.head | apply SetAt.tail)); (case hn => first | exact of_decide_eq_true rfl | (show _ < 4; with_reducible assumption) | (simp; first | done | omega)); (case hl => first | with_reducible assumption | (simp only [nl, kA, kB]; first | done | rfl) | rfl); clear hR; intro w hR) | fail)
  (refine' bodyPost_ret (results_ccr Try.results17 rfl (hR.loadAll (P := Try.prog) (ty := 24) ?hm ?hn) rfl (hR.loadAll (P := Try.prog) (ty := 24) ?hm2 ?hn2)) rfl ⟨?_, hR.below⟩; (case hm => first | with_reducible assumption | repeat (first | exact .head _ | apply List.Mem.tail)); (case hn => first | rfl | (simp; done)); (case hm2 => first | with_reducible assumption | repeat (first | exact .head _ | apply List.Mem.tail)); (case hn2 => first | rfl | (simp; done)))
  rw [num_zero]
  rfl
/-- divides.Div, all of it. -/
theorem div_any (a b : Nat) (ha : a < B) (hb : b < B) (w : World) : Calls Try.prog 17 #[num a, num b] w fun e w' =>
    e = .returned (.tuple #[num (quo0 a b), num (rem0 a b), .int .i64 (if b = 0 then 1 else 0)]) ∧ Below w.heap.size w w' := by
  by_cases h : b = 0
  · subst h
    rw [if_pos rfl, rem0_def, quo0_def, if_pos rfl, Nat.div_zero]
    exact div_none a ha w
  · rw [if_neg h]
    by_cases hs : b < 18446744073709551616
    · exact div_short a b ha h hs w
    · exact div_long a b ha hb hs w
end Go.Proofs.Ytdmdkdodfngjiaa
