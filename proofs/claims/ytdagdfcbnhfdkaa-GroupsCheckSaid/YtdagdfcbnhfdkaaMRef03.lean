/- The contracts of balefireref03.Word, twice. -/
import Derived.Test.YtdagdfcbnhfdkaaMT
import Derived.Test.YtdagdfcbnhfdkaaMNext
import Derived.Test.YtdagdfcbnhfdkaaMF
set_option linter.unusedVariables false
set_option linter.unusedSimpArgs false
namespace Go.Proofs.Ytdagdfcbnhfdkaa
open Go.RowKit
attribute [local irreducible] Calls
theorem small_words (a : Nat) (ha : a < B) : a < 18446744073709551616 ↔ wd a 1 = 0 ∧ wd a 2 = 0 ∧ wd a 3 = 0 := by
  have h := ofW_w64 a
  rw [Nat.mod_eq_of_lt ha] at h
  have l0 := xCi a 0; have l1 := xCi a 1; have l2 := xCi a 2; have l3 := xCi a 3
  rw [wd_eq, wd_eq, wd_eq]
  unfold ofW at h
  omega
set_option maxRecDepth 100000 in
set_option maxHeartbeats 1000000 in
theorem xCd (a : Nat) (ha : a < B) (w : World) : Calls Try.prog 95 #[num a] w fun e w' =>
    e = .returned (.bool (decide (a < 18446744073709551616))) ∧ Below w.heap.size w w' := by
  have hs := small_words a ha
  have hR := Rep.init w
  by_cases h1 : wd a 1 = 0
  · by_cases h2 : wd a 2 = 0
    · by_cases h3 : wd a 3 = 0
      · rw [decide_eq_true (hs.mpr ⟨h1, h2, h3⟩)]
        clear hs
        go_enter Try.func95, Try.ntmps95
        go_wp2_with (first | (refine' xAb hR rfl rfl rfl ?_; clear hR; intro blk w hR) | (refine' xAa hR rfl rfl inferInstance ?_; clear hR; intro blk w hR) | (refine' aAq hR rfl rfl rfl inferInstance ?_) | (refine' aBq hR rfl rfl rfl inferInstance ?_) | (refine' aCq hR rfl rfl rfl inferInstance ?_) | (refine' aDq hR rfl rfl rfl inferInstance rfl ?_; clear hR; intro w hR) | (refine' aEq hR rfl rfl rfl inferInstance rfl rfl ?_; clear hR; intro w hR) | (refine' xAg hR rfl rfl rfl inferInstance ?hm ?hn ?_; (case hm => first | with_reducible assumption | repeat (first | exact .head _ | apply mT)); (case hn => first | rfl | simp)) | (refine' xAc hR rfl rfl rfl inferInstance ?hm ?hv ?_; (case hm => first | with_reducible assumption | repeat (first | exact .head _ | apply mT)); (case hv => first | rfl | with_reducible assumption)) | fail)
        go_ret
        exact ⟨rfl, hR.below⟩
      · rw [decide_eq_false (fun h => h3 (hs.mp h).2.2)]
        have b3 : (wd a 3 == 0) = false := by simp [h3]
        clear hs
        go_enter Try.func95, Try.ntmps95
        go_wp2_with (first | (refine' xAb hR rfl rfl rfl ?_; clear hR; intro blk w hR) | (refine' xAa hR rfl rfl inferInstance ?_; clear hR; intro blk w hR) | (refine' aAq hR rfl rfl rfl inferInstance ?_) | (refine' aBq hR rfl rfl rfl inferInstance ?_) | (refine' aCq hR rfl rfl rfl inferInstance ?_) | (refine' aDq hR rfl rfl rfl inferInstance rfl ?_; clear hR; intro w hR) | (refine' aEq hR rfl rfl rfl inferInstance rfl rfl ?_; clear hR; intro w hR) | (refine' xAg hR rfl rfl rfl inferInstance ?hm ?hn ?_; (case hm => first | with_reducible assumption | repeat (first | exact .head _ | apply mT)); (case hn => first | rfl | simp)) | (refine' xAc hR rfl rfl rfl inferInstance ?hm ?hv ?_; (case hm => first | with_reducible assumption | repeat (first | exact .head _ | apply mT)); (case hv => first | rfl | with_reducible assumption)) | fail)
        go_ret
        exact ⟨rfl, hR.below⟩
    · rw [decide_eq_false (fun h => h2 (hs.mp h).2.1)]
      have b2 : (wd a 2 == 0) = false := by simp [h2]
      clear hs
      go_enter Try.func95, Try.ntmps95
      go_wp2_with (first | (refine' xAb hR rfl rfl rfl ?_; clear hR; intro blk w hR) | (refine' xAa hR rfl rfl inferInstance ?_; clear hR; intro blk w hR) | (refine' aAq hR rfl rfl rfl inferInstance ?_) | (refine' aBq hR rfl rfl rfl inferInstance ?_) | (refine' aCq hR rfl rfl rfl inferInstance ?_) | (refine' aDq hR rfl rfl rfl inferInstance rfl ?_; clear hR; intro w hR) | (refine' aEq hR rfl rfl rfl inferInstance rfl rfl ?_; clear hR; intro w hR) | (refine' xAg hR rfl rfl rfl inferInstance ?hm ?hn ?_; (case hm => first | with_reducible assumption | repeat (first | exact .head _ | apply mT)); (case hn => first | rfl | simp)) | (refine' xAc hR rfl rfl rfl inferInstance ?hm ?hv ?_; (case hm => first | with_reducible assumption | repeat (first | exact .head _ | apply mT)); (case hv => first | rfl | with_reducible assumption)) | fail)
      go_ret
      exact ⟨rfl, hR.below⟩
  · rw [decide_eq_false (fun h => h1 (hs.mp h).1)]
    have b1 : (wd a 1 == 0) = false := by simp [h1]
    clear hs
    go_enter Try.func95, Try.ntmps95
    go_wp2_with (first | (refine' xAb hR rfl rfl rfl ?_; clear hR; intro blk w hR) | (refine' xAa hR rfl rfl inferInstance ?_; clear hR; intro blk w hR) | (refine' aAq hR rfl rfl rfl inferInstance ?_) | (refine' aBq hR rfl rfl rfl inferInstance ?_) | (refine' aCq hR rfl rfl rfl inferInstance ?_) | (refine' aDq hR rfl rfl rfl inferInstance rfl ?_; clear hR; intro w hR) | (refine' aEq hR rfl rfl rfl inferInstance rfl rfl ?_; clear hR; intro w hR) | (refine' xAg hR rfl rfl rfl inferInstance ?hm ?hn ?_; (case hm => first | with_reducible assumption | repeat (first | exact .head _ | apply mT)); (case hn => first | rfl | simp)) | (refine' xAc hR rfl rfl rfl inferInstance ?hm ?hv ?_; (case hm => first | with_reducible assumption | repeat (first | exact .head _ | apply mT)); (case hv => first | rfl | with_reducible assumption)) | fail)
    go_ret
    exact ⟨rfl, hR.below⟩
theorem nl_bit_add (r bit : Nat) (hb : bit < 2) :
    [Value.int .u64 (IntKind.u64.wrap (wd (r + r) 0 + (bit : Int))), .int .u64 (wd (r + r) 1), .int .u64 (wd (r + r) 2), .int .u64 (wd (r + r) 3)] = nl ((2 * r + bit) % B) := by
  rw [nl_mod]
  have e0 : IntKind.u64.wrap (wd (r + r) 0 + (bit : Int)) = wd (2 * r + bit) 0 := by
    rw [xCr, xCr, IntKind.wrap_u64]; omega
  have e : ∀ i, wd (r + r) (i + 1) = wd (2 * r + bit) (i + 1) := fun i => by
    rw [xCr, xCr, Nat.pow_succ, Nat.mul_comm, ← Nat.div_div_eq_div_mul, ← Nat.div_div_eq_div_mul, show (r + r) / 18446744073709551616 = (2 * r + bit) / 18446744073709551616 by omega]
  unfold nl
  rw [e0, e 0, e 1, e 2]
theorem twice_cases (r bit m : Nat) (hr : r < m) (hm : m < B) (hb : bit < 2) : ∃ X c : Nat, (2 * r + bit) % B = X ∧ (r + r) / B = c ∧ X < B ∧
    ((c = 1 ∧ num (X + B - m) = num ((2 * r + bit) % m) ∧ 1 = (2 * r + bit) / m) ∨
     (c = 0 ∧ 0 ≤ cmpN X m ∧ num (X + B - m) = num ((2 * r + bit) % m) ∧ 1 = (2 * r + bit) / m) ∨
     (c = 0 ∧ ¬ 0 ≤ cmpN X m ∧ num X = num ((2 * r + bit) % m) ∧ 0 = (2 * r + bit) / m)) := by
  obtain ⟨X, hX, hXB, hc⟩ := next_cases r bit m hr hm hb
  have ec : ((r : Int) + r) / (B : Int) = (((r + r) / B : Nat) : Int) := by rw [← Int.natCast_add, ← Int.natCast_ediv]
  have hbor := bor_def (X : Int) (m : Int)
  have hcmp := cmpN_ge X m
  refine ⟨X, _, hX, rfl, hXB, ?_⟩
  rw [ec] at hc
  rcases hc with ⟨c1, c2, c3⟩ | ⟨c1, c2, c3, c4⟩ | ⟨c1, c2, c3, c4⟩
  · exact .inl ⟨by omega, c2, by omega⟩
  · refine .inr (.inl ⟨by omega, ?_, c3, by omega⟩)
    rw [hcmp]
    by_cases h : (X : Int) < m
    · rw [if_pos h] at hbor; omega
    · omega
  · refine .inr (.inr ⟨by omega, ?_, c3, by omega⟩)
    rw [hcmp]
    by_cases h : (X : Int) < m
    · omega
    · rw [if_neg h] at hbor; omega
theorem ra_lit {a b s c : Nat} (ha : a < B) (hb : b < B) (hs : a + b = s) (hc : (a + b) / B = c) (w : World) : Calls Try.prog 103 #[num a, num b] w fun e w' =>
    e = .returned (.tuple #[num s, .int .u64 (c : Int)]) ∧ Below w.heap.size w w' := by
  have := refAdd_any a b ha hb w
  rwa [hc, hs] at this
theorem rc_lit {a b : Nat} {c : Int} (ha : a < B) (hb : b < B) (hc : cmpN a b = c) (w : World) : Calls Try.prog 50 #[num a, num b] w fun e w' =>
    e = .returned (.int .i64 c) ∧ Below w.heap.size w w' := by
  have := refCmp_any a b ha hb w
  rwa [hc] at this
theorem rs_lit {a b d : Nat} (ha : a < B) (hb : b < B) (hd : num (a + B - b) = num d) (w : World) : Calls Try.prog 59 #[num a, num b] w fun e w' =>
    e = .returned (.tuple #[num d, .int .u64 (bor a b)]) ∧ Below w.heap.size w w' := by
  have := refSub_any a b ha hb w
  rwa [hd] at this
set_option maxRecDepth 100000 in
set_option maxHeartbeats 1000000 in
theorem refTwice_any (r bit m : Nat) (hr : r < m) (hm : m < B) (hb : bit < 2) (w : World) : Calls Try.prog 145 #[num r, .int .u64 (bit : Int), num m] w fun e w' =>
    e = .returned (num ((2 * r + bit) % m)) ∧ Below w.heap.size w w' := by
  have hR := Rep.init w
  have hx := nl_bit_add r bit hb
  obtain ⟨X, c, hX, hcc, hXB, hc⟩ := twice_cases r bit m hr hm hb
  rw [hX] at hx
  have ca := ra_lit (s := r + r) (by omega : r < B) (by omega) rfl hcc
  clear hX hcc
  generalize r + r = s at *
  have cc := rc_lit hXB hm rfl
  rcases hc with ⟨rfl, c2, c3⟩ | ⟨rfl, cg, c2, c3⟩ | ⟨rfl, cg, c2, c3⟩
  · have cs := rs_lit hXB hm c2
    generalize cmpN X m = t at *
    generalize (2 * r + bit) % m = y at *
    generalize bor (X : Int) (m : Int) = l at *
    clear c2 c3
    go_enter Try.func145, Try.ntmps145
    go_wp2_with (first | (refine' xAb hR rfl rfl rfl ?_; clear hR; intro blk w hR) | (refine' xAa hR rfl rfl inferInstance ?_; clear hR; intro blk w hR) | (refine' aAq hR rfl rfl rfl inferInstance ?_) | (refine' aBq hR rfl rfl rfl inferInstance ?_) | (refine' aCq hR rfl rfl rfl inferInstance ?_) | (refine' aDq hR rfl rfl rfl inferInstance rfl ?_; clear hR; intro w hR) | (refine' aEq hR rfl rfl rfl inferInstance rfl rfl ?_; clear hR; intro w hR) | (refine' xAg hR rfl rfl rfl inferInstance ?hm ?hn ?_; (case hm => first | with_reducible assumption | repeat (first | exact .head _ | apply mT)); (case hn => first | rfl | simp)) | (refine' xAc hR rfl rfl rfl inferInstance ?hm ?hv ?_; (case hm => first | with_reducible assumption | repeat (first | exact .head _ | apply mT)); (case hv => first | rfl | with_reducible assumption)) | (go_at_call 103; refine (ca _).mono ?_; rintro e w ⟨rfl, hb⟩; replace hR := hR.call hb; clear hb) | (go_at_call 59; refine (cs _).mono ?_; rintro e w ⟨rfl, hb⟩; replace hR := hR.call hb; clear hb) | (go_at_call 50; refine (cc _).mono ?_; rintro e w ⟨rfl, hb⟩; replace hR := hR.call hb; clear hb))
    (refine' bodyPost_ret (xBr Try.results145 rfl (hR.loadAll (P := Try.prog) (ty := 24) ?hm ?hn)) rfl ⟨?_, hR.below⟩; (case hm => first | with_reducible assumption | repeat (first | exact .head _ | apply mT)); (case hn => first | rfl | simp))
    rfl
  · have cs := rs_lit hXB hm c2
    generalize cmpN X m = t at *
    generalize (2 * r + bit) % m = y at *
    generalize bor (X : Int) (m : Int) = l at *
    clear c2 c3
    go_enter Try.func145, Try.ntmps145
    go_wp2_with (first | (refine' xAb hR rfl rfl rfl ?_; clear hR; intro blk w hR) | (refine' xAa hR rfl rfl inferInstance ?_; clear hR; intro blk w hR) | (refine' aAq hR rfl rfl rfl inferInstance ?_) | (refine' aBq hR rfl rfl rfl inferInstance ?_) | (refine' aCq hR rfl rfl rfl inferInstance ?_) | (refine' aDq hR rfl rfl rfl inferInstance rfl ?_; clear hR; intro w hR) | (refine' aEq hR rfl rfl rfl inferInstance rfl rfl ?_; clear hR; intro w hR) | (refine' xAg hR rfl rfl rfl inferInstance ?hm ?hn ?_; (case hm => first | with_reducible assumption | repeat (first | exact .head _ | apply mT)); (case hn => first | rfl | simp)) | (refine' xAc hR rfl rfl rfl inferInstance ?hm ?hv ?_; (case hm => first | with_reducible assumption | repeat (first | exact .head _ | apply mT)); (case hv => first | rfl | with_reducible assumption)) | (go_at_call 103; refine (ca _).mono ?_; rintro e w ⟨rfl, hb⟩; replace hR := hR.call hb; clear hb) | (go_at_call 59; refine (cs _).mono ?_; rintro e w ⟨rfl, hb⟩; replace hR := hR.call hb; clear hb) | (go_at_call 50; refine (cc _).mono ?_; rintro e w ⟨rfl, hb⟩; replace hR := hR.call hb; clear hb))
    (refine' bodyPost_ret (xBr Try.results145 rfl (hR.loadAll (P := Try.prog) (ty := 24) ?hm ?hn)) rfl ⟨?_, hR.below⟩; (case hm => first | with_reducible assumption | repeat (first | exact .head _ | apply mT)); (case hn => first | rfl | simp))
    rfl
  · rw [← c2]
    generalize cmpN X m = t at *
    clear c2 c3
    go_enter Try.func145, Try.ntmps145
    go_wp2_with (first | (refine' xAb hR rfl rfl rfl ?_; clear hR; intro blk w hR) | (refine' xAa hR rfl rfl inferInstance ?_; clear hR; intro blk w hR) | (refine' aAq hR rfl rfl rfl inferInstance ?_) | (refine' aBq hR rfl rfl rfl inferInstance ?_) | (refine' aCq hR rfl rfl rfl inferInstance ?_) | (refine' aDq hR rfl rfl rfl inferInstance rfl ?_; clear hR; intro w hR) | (refine' aEq hR rfl rfl rfl inferInstance rfl rfl ?_; clear hR; intro w hR) | (refine' xAg hR rfl rfl rfl inferInstance ?hm ?hn ?_; (case hm => first | with_reducible assumption | repeat (first | exact .head _ | apply mT)); (case hn => first | rfl | simp)) | (refine' xAc hR rfl rfl rfl inferInstance ?hm ?hv ?_; (case hm => first | with_reducible assumption | repeat (first | exact .head _ | apply mT)); (case hv => first | rfl | with_reducible assumption)) | (go_at_call 103; refine (ca _).mono ?_; rintro e w ⟨rfl, hb⟩; replace hR := hR.call hb; clear hb) | (go_at_call 50; refine (cc _).mono ?_; rintro e w ⟨rfl, hb⟩; replace hR := hR.call hb; clear hb))
    (refine' bodyPost_ret (xBr Try.results145 rfl (hR.loadAll (P := Try.prog) (ty := 24) ?hm ?hn)) rfl ⟨?_, hR.below⟩; (case hm => first | with_reducible assumption | repeat (first | exact .head _ | apply mT)); (case hn => first | rfl | simp))
    try rw [hx]
end Go.Proofs.Ytdagdfcbnhfdkaa
