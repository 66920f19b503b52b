import Derived.Test.YtaaahfjpnggkbaaGreatDoorZA
set_option linter.unusedSimpArgs false
set_option linter.unusedVariables false
set_option maxRecDepth 100000
set_option maxHeartbeats 20000000
namespace Go.Proofs.YtaaahfjpnggkbaaGreatDoor
open Go.RowKit
theorem xHn (a : Nat) (ha : a < B) (w : World) : Calls Tryz.prog 228 #[num a] w fun e w' =>
  e = .returned (.bool (decide (a < 18446744073709551616))) ∧ Below w.heap.size w w' := by
 have hR := Rep.init w
 go_enter Tryz.func228, Tryz.ntmps228
 go_wp2_with (first | (refine' aAq hR ?_; clear hR; intro blk w hR) | (refine' aBq hR ?_; clear hR; intro blk w hR) | (refine' aCq hR ?_) | (refine' aDq hR ?_) | (refine' aEq hR ?_) | (refine' aFq hR ?_; clear hR; intro w hR) | (refine' aGq hR ?_; clear hR; intro w hR) | (go_at_call 169; refine (xFq a ha _).mono ?_; rintro e w ⟨rfl, hb⟩; replace hR := hR.call hb; clear hb))
 go_ret
 refine ⟨?_, hR.below⟩
 refine congrArg (fun x => Ending.returned (.bool x)) ?_
 have := xBk a 64
 rw [decide_eq_decide]
 constructor
 ·intro h; exact this.mp (by omega)
 ·intro h; have := this.mpr h; omega
theorem bits_or1 (x b : Nat) (hx : x < 9223372036854775808) (hb : b < 2) : bits BinOp.or IntKind.u64 ((2 * x : Nat) : Int) (b : Int) = ((2 * x + b : Nat) : Int) := by
 rw [bits_or_u64_nat _ _ (by omega) (by omega)]
 have := Nat.two_pow_add_eq_or_of_lt (i := 1) (b := b) (by omega) x
 rw [show (2 : Nat) ^ 1 = 2 from rfl] at this
 rw [this]
theorem nl_bit (r bit : Nat) (hb : bit < 2) :
  [Value.int .u64 (bits BinOp.or IntKind.u64 (wd (r + r) 0) (bit : Int)), .int .u64 (wd (r + r) 1), .int .u64 (wd (r + r) 2), .int .u64 (wd (r + r) 3)] = nl ((2 * r + bit) % B) := by
 rw [nl_mod]
 have e0 : bits BinOp.or IntKind.u64 (wd (r + r) 0) (bit : Int) = wd (2 * r + bit) 0 := by
  rw [xCv, xCv, show (r + r) / 18446744073709551616 ^ 0 % 18446744073709551616 = 2 * (r % 9223372036854775808) by omega, bits_or1 _ _ (by omega) hb]
  omega
 have e : ∀ i, wd (r + r) (i + 1) = wd (2 * r + bit) (i + 1) := fun i => by
  rw [xCv, xCv, Nat.pow_succ, Nat.mul_comm, ← Nat.div_div_eq_div_mul, ← Nat.div_div_eq_div_mul, show (r + r) / 18446744073709551616 = (2 * r + bit) / 18446744073709551616 by omega]
 unfold nl
 rw [e0, e 0, e 1, e 2]
theorem next_cases (r bit m : Nat) (hr : r < m) (hm : m < B) (hb : bit < 2) : ∃ X : Nat, (2 * r + bit) % B = X ∧ X < B ∧
    ((((r : Int) + r) / (B : Int) = 1 ∧ num (X + B - m) = num ((2 * r + bit) % m) ∧ (1 : Int) = (((2 * r + bit) / m : Nat) : Int)) ∨
     (((r : Int) + r) / (B : Int) = 0 ∧ bor (X : Int) (m : Int) = 0 ∧ num (X + B - m) = num ((2 * r + bit) % m) ∧ (1 : Int) = (((2 * r + bit) / m : Nat) : Int)) ∨
     (((r : Int) + r) / (B : Int) = 0 ∧ bor (X : Int) (m : Int) = 1 ∧ num X = num ((2 * r + bit) % m) ∧ (0 : Int) = (((2 * r + bit) / m : Nat) : Int))) := by
  have bp := xEs
  have b2 : B = 2 * (B / 2) := by rw [B_eq]
  have hd : ∀ c : Nat, c * B ≤ r + r → r + r < (c + 1) * B → ((r : Int) + r) / (B : Int) = (c : Int) := fun c h1 h2 => by
    rw [← Int.natCast_add, ← Int.natCast_ediv]
    exact congrArg Nat.cast ((Nat.div_eq_iff bp).mpr ⟨by omega, by rw [Nat.add_mul, Nat.one_mul] at h2; omega⟩)
  refine ⟨_, rfl, Nat.mod_lt _ bp, ?_⟩
  have sub : m ≤ 2 * r + bit → (2 * r + bit) % m = 2 * r + bit - m ∧ (2 * r + bit) / m = 1 := fun h => by
    have e : 2 * r + bit = m * 1 + (2 * r + bit - m) := by omega
    constructor
    · rw [Nat.mod_eq_sub_mod h, Nat.mod_eq_of_lt (by omega)]
    · rw [Nat.div_eq_sub_div (by omega) h, Nat.div_eq_of_lt (by omega)]
  by_cases h : 2 * r + bit < B
  · rw [Nat.mod_eq_of_lt h, hd 0 (by omega) (by omega)]
    by_cases k : m ≤ 2 * r + bit
    · obtain ⟨s1, s2⟩ := sub k
      refine .inr (.inl ⟨rfl, ?_, ?_, ?_⟩)
      · rw [xDh, if_neg (by omega)]
      · rw [s1, ← xHb, show 2 * r + bit + B - m = (2 * r + bit - m) + B by omega, Nat.add_mod_right, xHb]
      · rw [s2]; rfl
    · refine .inr (.inr ⟨rfl, ?_, ?_, ?_⟩)
      · rw [xDh, if_pos (by omega)]
      · rw [Nat.mod_eq_of_lt (by omega)]
      · rw [Nat.div_eq_of_lt (by omega)]; rfl
  · rw [hd 1 (by omega) (by omega)]
    obtain ⟨s1, s2⟩ := sub (by omega)
    refine .inl ⟨rfl, ?_, ?_⟩
    · rw [s1, Nat.mod_eq_sub_mod (by omega), Nat.mod_eq_of_lt (by omega), show 2 * r + bit - B + B - m = 2 * r + bit - m by omega]
    · rw [s2]; rfl
theorem next_any (r bit m : Nat) (hr : r < m) (hm : m < B) (hb : bit < 2) (w : World) : Calls Tryz.prog 230 #[num r, .int .u64 (bit : Int), num m] w fun e w' =>
  e = .returned (.tuple #[num ((2 * r + bit) % m), .int .u64 (((2 * r + bit) / m : Nat) : Int)]) ∧ Below w.heap.size w w' := by
 have hR := Rep.init w
 have hx := nl_bit r bit hb
 obtain ⟨X, hX, hXB, hc⟩ := next_cases r bit m hr hm hb
 rw [hX] at hx
 clear hX
 rcases hc with ⟨c1, c2, c3⟩ | ⟨c1, c2, c3, c4⟩ | ⟨c1, c2, c3, c4⟩
 ·rw [← c2, ← c3]
  clear c2 c3
  go_enter Tryz.func230, Tryz.ntmps230
  go_wp2_with (first | (refine' aAq hR ?_; clear hR; intro blk w hR) | (refine' aBq hR ?_; clear hR; intro blk w hR) | (refine' aCq hR ?_) | (refine' aDq hR ?_) | (refine' aEq hR ?_) | (refine' aFq hR ?_; clear hR; intro w hR) | (refine' aGq hR ?_; clear hR; intro w hR) | (go_at_call 203; refine (add_any r r (by omega) (by omega) _).mono ?_; rintro e w ⟨rfl, hb⟩; replace hR := hR.call hb; clear hb) | (go_at_call 204; refine (sub_any X m hXB hm _).mono ?_; rintro e w ⟨rfl, hb⟩; replace hR := hR.call hb; clear hb))
  (refine' bodyPost_ret (xAu Tryz.results230 rfl (hR.loadAll (P := Tryz.prog) (ty := 24) ?hm ?hn)) rfl ⟨?_, hR.below⟩; (case hm => first | with_reducible assumption | repeat (first | exact .head _ | apply mT)); (case hn => first | rfl | simp))
  rfl
 ·rw [← c3, ← c4]
  clear c3 c4
  go_enter Tryz.func230, Tryz.ntmps230
  go_wp2_with (first | (refine' aAq hR ?_; clear hR; intro blk w hR) | (refine' aBq hR ?_; clear hR; intro blk w hR) | (refine' aCq hR ?_) | (refine' aDq hR ?_) | (refine' aEq hR ?_) | (refine' aFq hR ?_; clear hR; intro w hR) | (refine' aGq hR ?_; clear hR; intro w hR) | (go_at_call 203; refine (add_any r r (by omega) (by omega) _).mono ?_; rintro e w ⟨rfl, hb⟩; replace hR := hR.call hb; clear hb) | (go_at_call 204; refine (sub_any X m hXB hm _).mono ?_; rintro e w ⟨rfl, hb⟩; replace hR := hR.call hb; clear hb))
  (refine' bodyPost_ret (xAu Tryz.results230 rfl (hR.loadAll (P := Tryz.prog) (ty := 24) ?hm ?hn)) rfl ⟨?_, hR.below⟩; (case hm => first | with_reducible assumption | repeat (first | exact .head _ | apply mT)); (case hn => first | rfl | simp))
  rfl
 ·rw [← c3, ← c4]
  clear c3 c4
  go_enter Tryz.func230, Tryz.ntmps230
  go_wp2_with (first | (refine' aAq hR ?_; clear hR; intro blk w hR) | (refine' aBq hR ?_; clear hR; intro blk w hR) | (refine' aCq hR ?_) | (refine' aDq hR ?_) | (refine' aEq hR ?_) | (refine' aFq hR ?_; clear hR; intro w hR) | (refine' aGq hR ?_; clear hR; intro w hR) | (go_at_call 203; refine (add_any r r (by omega) (by omega) _).mono ?_; rintro e w ⟨rfl, hb⟩; replace hR := hR.call hb; clear hb) | (go_at_call 204; refine (sub_any X m hXB hm _).mono ?_; rintro e w ⟨rfl, hb⟩; replace hR := hR.call hb; clear hb))
  (refine' bodyPost_ret (xAu Tryz.results230 rfl (hR.loadAll (P := Tryz.prog) (ty := 24) ?hm ?hn)) rfl ⟨?_, hR.below⟩; (case hm => first | with_reducible assumption | repeat (first | exact .head _ | apply mT)); (case hn => first | rfl | simp))
  try rw [hx]
  rfl
end Go.Proofs.YtaaahfjpnggkbaaGreatDoor
