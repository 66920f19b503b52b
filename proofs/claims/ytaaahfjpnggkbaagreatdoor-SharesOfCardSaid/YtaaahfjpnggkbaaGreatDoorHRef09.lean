import Derived.Test.YtaaahfjpnggkbaaGreatDoorHR5
import Derived.Test.YtaaahfjpnggkbaaGreatDoorHScalOf
set_option linter.unusedSimpArgs false
set_option linter.unusedVariables false
set_option maxRecDepth 100000
set_option maxHeartbeats 20000000
namespace Go.Proofs.YtaaahfjpnggkbaaGreatDoor
open Go.RowKit
attribute [local irreducible] Calls
section
variable {p q g h a b r : Nat}
theorem rsadd_any (ha : a < B) (hb : b < B) (hq : q < B) (w : World) : Calls Tryz.prog 129 #[grp p q g h, num a, num b] w fun e' w' =>
  e' = .returned (.tuple #[num (if okM a b q then (a + b) % q else 0), .int .i64 (if okM a b q then 0 else 1)]) ∧ Below w.heap.size w w' := by
 have c1 := fun w => ref04_add a b q ha hb hq w
 generalize (if okM a b q then (a + b) % q else 0) = r at *
 generalize (if okM a b q then (0 : Int) else 1) = e at *
 have tq := gl_q p q g h
 have hR := Rep.init w
 go_enter Tryz.func129, Tryz.ntmps129
 go_wp2_with (first | (refine' aAq hR ?_; clear hR; intro blk w hR) | (refine' aBq hR ?_; clear hR; intro blk w hR) | (refine' aEq hR ?_) | (refine' aQq hR ?_) | (refine' aFq hR ?_; clear hR; intro w hR) | (go_at_call 194; refine (c1 _).mono ?_; rintro e w ⟨rfl, hb⟩; replace hR := hR.call hb; clear hb))
 (refine' bodyPost_ret (xAh Tryz.results129 rfl (hR.loadAll (P := Tryz.prog) (ty := 24) ?hm ?hn)) rfl ⟨?_, hR.below⟩; (case hm => first | with_reducible assumption | repeat (first | exact .head _ | apply mT)); (case hn => first | rfl | simp))
 rfl
theorem rssub_any (ha : a < B) (hb : b < B) (hq : q < B) (w : World) : Calls Tryz.prog 133 #[grp p q g h, num a, num b] w fun e' w' =>
  e' = .returned (.tuple #[num (if okM a b q then subN a b q else 0), .int .i64 (if okM a b q then 0 else 1)]) ∧ Below w.heap.size w w' := by
 have c1 := fun w => ref04_sub a b q ha hb hq w
 generalize (if okM a b q then subN a b q else 0) = r at *
 generalize (if okM a b q then (0 : Int) else 1) = e at *
 have tq := gl_q p q g h
 have hR := Rep.init w
 go_enter Tryz.func133, Tryz.ntmps133
 go_wp2_with (first | (refine' aAq hR ?_; clear hR; intro blk w hR) | (refine' aBq hR ?_; clear hR; intro blk w hR) | (refine' aEq hR ?_) | (refine' aQq hR ?_) | (refine' aFq hR ?_; clear hR; intro w hR) | (go_at_call 200; refine (c1 _).mono ?_; rintro e w ⟨rfl, hb⟩; replace hR := hR.call hb; clear hb))
 (refine' bodyPost_ret (xAh Tryz.results133 rfl (hR.loadAll (P := Tryz.prog) (ty := 24) ?hm ?hn)) rfl ⟨?_, hR.below⟩; (case hm => first | with_reducible assumption | repeat (first | exact .head _ | apply mT)); (case hn => first | rfl | simp))
 rfl
theorem rsmul_any (ha : a < B) (hb : b < B) (hq : q < B) (w : World) : Calls Tryz.prog 108 #[grp p q g h, num a, num b] w fun e' w' =>
  e' = .returned (.tuple #[num (if okM a b q then mulN a b q else 0), .int .i64 (if okM a b q then 0 else 1)]) ∧ Below w.heap.size w w' := by
 have c1 := fun w => ref04_mul a b q ha hb hq w
 generalize (if okM a b q then mulN a b q else 0) = r at *
 generalize (if okM a b q then (0 : Int) else 1) = e at *
 have tq := gl_q p q g h
 have hR := Rep.init w
 go_enter Tryz.func108, Tryz.ntmps108
 go_wp2_with (first | (refine' aAq hR ?_; clear hR; intro blk w hR) | (refine' aBq hR ?_; clear hR; intro blk w hR) | (refine' aEq hR ?_) | (refine' aQq hR ?_) | (refine' aFq hR ?_; clear hR; intro w hR) | (go_at_call 180; refine (c1 _).mono ?_; rintro e w ⟨rfl, hb⟩; replace hR := hR.call hb; clear hb))
 (refine' bodyPost_ret (xAh Tryz.results108 rfl (hR.loadAll (P := Tryz.prog) (ty := 24) ?hm ?hn)) rfl ⟨?_, hR.below⟩; (case hm => first | with_reducible assumption | repeat (first | exact .head _ | apply mT)); (case hn => first | rfl | simp))
 rfl
theorem rsinv_any (ha : a < B) (hq : q < B) (w : World) : Calls Tryz.prog 107 #[grp p q g h, num a] w fun e' w' =>
  e' = .returned (.tuple #[num (if okE a q then invM a q else 0), .int .i64 (invE a q)]) ∧ Below w.heap.size w w' := by
 have c1 := fun w => ref04_inv a q ha hq w
 generalize (if okE a q then invM a q else 0) = r at *
 generalize invE a q = e at *
 have tq := gl_q p q g h
 have hR := Rep.init w
 go_enter Tryz.func107, Tryz.ntmps107
 go_wp2_with (first | (refine' aAq hR ?_; clear hR; intro blk w hR) | (refine' aBq hR ?_; clear hR; intro blk w hR) | (refine' aEq hR ?_) | (refine' aQq hR ?_) | (refine' aFq hR ?_; clear hR; intro w hR) | (go_at_call 179; refine (c1 _).mono ?_; rintro e w ⟨rfl, hb⟩; replace hR := hR.call hb; clear hb))
 (refine' bodyPost_ret (xAh Tryz.results107 rfl (hR.loadAll (P := Tryz.prog) (ty := 24) ?hm ?hn)) rfl ⟨?_, hR.below⟩; (case hm => first | with_reducible assumption | repeat (first | exact .head _ | apply mT)); (case hn => first | rfl | simp))
 rfl
end
theorem xIr (p q g h : Nat) (n : Int) (hq : q < B) (b0 : -9223372036854775808 ≤ n) (b1 : n < 9223372036854775808) (w : World) : Calls Tryz.prog 42 #[grp p q g h, .int .i64 n] w fun e w' =>
  e = .returned (num (sOf q n)) ∧ Below w.heap.size w w' := by
 have tq := gl_q p q g h
 by_cases hz : q = 0
 ·have e0 : sOf q n = 0 := by rw [xJw, if_pos (by omega)]
  rw [e0]
  have z : eqN q 0 = true := xFw hz
  clear hz e0
  have hR := Rep.init w
  go_enter Tryz.func42, Tryz.ntmps42
  go_wp2_with (first | (refine' aAq hR ?_; clear hR; intro blk w hR) | (refine' aBq hR ?_; clear hR; intro blk w hR) | (refine' aQq hR ?_) | (refine' aFq hR ?_; clear hR; intro w hR))
  (refine' bodyPost_ret (xAq Tryz.results42 rfl (hR.loadAll (P := Tryz.prog) (ty := 24) ?hm ?hn)) rfl ⟨?_, hR.below⟩; (case hm => first | with_reducible assumption | repeat (first | exact .head _ | apply mT)); (case hn => first | rfl | simp))
  rw [xBe]
 ·have z : eqN q 0 = false := xDq hq xEy hz
  obtain ⟨M, hM⟩ : ∃ M, n.natAbs = M := ⟨_, rfl⟩
  have lM : M < 18446744073709551616 := by omega
  have o1 := fun w => xCw M lM w
  obtain ⟨r, hr⟩ : ∃ r, M % q = r := ⟨_, rfl⟩
  obtain ⟨k, hk⟩ : ∃ k, quo0 M q = k := ⟨_, rfl⟩
  have dq := rd_lit (r := r) (e := 0) (lt_B lM) hq hk (by rw [xEs hz, hr]) (by rw [if_neg hz])
  have lr : r < q := by rw [← hr]; exact Nat.mod_lt _ (by omega)
  have ezr : ∀ x : Nat, x < q → q = 1 → x = 0 := fun x h1 h2 => by omega
  by_cases hn : 0 ≤ n
  ·have er : sOf q n = r := by
    by_cases h1 : 1 < q
    ·rw [← hr, ← hM]; exact (sOf_pos h1 hn).symm
    ·rw [xJw, if_pos (by omega)]; exact (ezr r lr (by omega)).symm
   rw [er]
   have ew : IntKind.u64.wrap n = (M : Int) := by rw [IntKind.wrap_u64]; omega
   clear hM hr hk lr ezr er hz lM b0 b1
   have hR := Rep.init w
   go_enter Tryz.func42, Tryz.ntmps42
   go_wp2_with (first | (refine' aAq hR ?_; clear hR; intro blk w hR) | (refine' aBq hR ?_; clear hR; intro blk w hR) | (refine' aQq hR ?_))
   refine' xEa hR [1, 1, 1, 1, 1, 1, 1, 1, 1, 1, 2, 2, 2, 2, 2] 10 11 5 6 _ _ _ _ [12, 13, 14] xBd (by kernel_rfl) rfl rfl rfl rfl rfl rfl rfl (by decide) (xFb rfl rfl ?z1) (xFb rfl rfl ?z2) ?_
   case z1 => exact inferInstance
   case z2 => exact inferInstance
   intro K hK
   clear hR
   repeat ((first | (refine xAp ?_) | (refine' xAj (by decide) rfl (.inl rfl) rfl ?ha ?_) | (refine' aJq ?ha ?_) | ((first | refine' xAt (by decide) rfl rfl rfl (fun w => ?hq) ?ha ?_ | refine' xAl (by decide) rfl rfl rfl (fun w => ?hq) ?ha ?_ | refine' xBy (by decide) rfl rfl rfl (fun w => ?hq) ?ha ?_); (case hq => go_simp; try rfl)) | (refine' xBk rfl rfl rfl (xAi Tryz.func131 (by kernel_rfl) (by kernel_rfl) _) (fun w => o1 w) ?ha ?_) | (refine' xBk rfl rfl rfl (xAi Tryz.func130 (by kernel_rfl) (by kernel_rfl) _) (fun w => dq w) ?ha ?_)); try (case ha => simp only [kP, kQ, kA, kB]; try rfl))
   try simp only [List.nil_append, List.cons_append]
   refine xAo (hK _ _ (fun _ _ => ?_))
   clear hK K
   refine xAr (fun Q hQ => ?_)
   simp only [kP, kQ, kA, kB]
   repeat ((first | refine' xBf rfl (.inr rfl) rfl ?hk ?ha ?_ | (refine' aKq ?hk ?ha ?_)); (case hk => intro p hp; repeat (first | exact hp | apply mT)); (case ha => simp only [kP, kQ, kA, kB]; try rfl))
   refine xAs (fun w hR => hQ _ _ ?_)
   clear hQ Q
   go_wp2_with (first | (refine' aEq hR ?_) | (refine' aFq hR ?_; clear hR; intro w hR))
   (refine' bodyPost_ret (xAq Tryz.results42 rfl (hR.loadAll (P := Tryz.prog) (ty := 24) ?hm ?hn)) rfl ⟨?_, hR.below⟩; (case hm => first | with_reducible assumption | repeat (first | exact .head _ | apply mT)); (case hn => first | rfl | simp))
   rfl
  ·have ew : IntKind.u64.wrap (-(IntKind.u64.wrap n)) = (M : Int) := by rw [IntKind.wrap_u64, IntKind.wrap_u64]; omega
   have hn2 : ¬ 0 ≤ n := hn
   by_cases hr0 : r = 0
   ·have er : sOf q n = r := by
     by_cases h1 : 1 < q
     ·have := sOf_neg h1 (n := n) (by omega)
      rw [hM, hr, hr0, xEi, Nat.zero_add, Nat.sub_zero, Nat.mod_self] at this
      rw [← this, hr0]
     ·rw [xJw, if_pos (by omega)]; exact hr0.symm
    rw [er]
    have z2 : eqN r 0 = true := xFw hr0
    clear hM hr hk lr ezr er hz lM b0 b1 hr0 hn
    have hR := Rep.init w
    go_enter Tryz.func42, Tryz.ntmps42
    go_wp2_with (first | (refine' aAq hR ?_; clear hR; intro blk w hR) | (refine' aBq hR ?_; clear hR; intro blk w hR) | (refine' aQq hR ?_))
    refine' xEa hR [1, 1, 1, 1, 1, 1, 1, 1, 1, 1, 1, 2, 2, 2, 2, 2] 11 12 8 9 _ _ _ _ [13, 14, 15] xBd (by kernel_rfl) rfl rfl rfl rfl rfl rfl rfl (by decide) (xFb rfl rfl ?z1) (xFb rfl rfl ?z2) ?_
    case z1 => exact inferInstance
    case z2 => exact inferInstance
    intro K hK
    clear hR
    repeat ((first | (refine xAp ?_) | (refine' xAj (by decide) rfl (.inl rfl) rfl ?ha ?_) | (refine' aJq ?ha ?_) | ((first | refine' xAt (by decide) rfl rfl rfl (fun w => ?hq) ?ha ?_ | refine' xAl (by decide) rfl rfl rfl (fun w => ?hq) ?ha ?_ | refine' xBy (by decide) rfl rfl rfl (fun w => ?hq) ?ha ?_); (case hq => go_simp; try rfl)) | (refine' xBk rfl rfl rfl (xAi Tryz.func131 (by kernel_rfl) (by kernel_rfl) _) (fun w => o1 w) ?ha ?_) | (refine' xBk rfl rfl rfl (xAi Tryz.func130 (by kernel_rfl) (by kernel_rfl) _) (fun w => dq w) ?ha ?_) | (refine' xDy (by decide) rfl rfl rfl (fun w => ?hq) ?ha ?_; (case hq => go_simp; try rfl); (case ha => simp only [kP, kQ, kA, kB]; try rfl))); try (case ha => simp only [kP, kQ, kA, kB]; try rfl))
    try simp only [List.nil_append, List.cons_append]
    refine xAo (hK _ _ (fun _ _ => ?_))
    clear hK K
    refine xAr (fun Q hQ => ?_)
    simp only [kP, kQ, kA, kB]
    repeat ((first | refine' xBf rfl (.inr rfl) rfl ?hk ?ha ?_ | (refine' aKq ?hk ?ha ?_)); (case hk => intro p hp; repeat (first | exact hp | apply mT)); (case ha => simp only [kP, kQ, kA, kB]; try rfl))
    refine xAs (fun w hR => hQ _ _ ?_)
    clear hQ Q
    go_wp2_with (first | (refine' aEq hR ?_) | (refine' aFq hR ?_; clear hR; intro w hR))
    (refine' bodyPost_ret (xAq Tryz.results42 rfl (hR.loadAll (P := Tryz.prog) (ty := 24) ?hm ?hn)) rfl ⟨?_, hR.below⟩; (case hm => first | with_reducible assumption | repeat (first | exact .head _ | apply mT)); (case hn => first | rfl | simp))
    rfl
   ·have h1 : 1 < q := by
     rcases Nat.lt_or_ge 1 q with h | h
     ·exact h
     ·exact absurd (ezr r lr (by omega)) hr0
    have er : sOf q n = q - r := by
     have := sOf_neg h1 (n := n) (by omega)
     rw [hM, hr, xEi, Nat.zero_add, Nat.mod_eq_of_lt (by omega)] at this
     exact this.symm
    rw [er]
    have z2 : eqN r 0 = false := xDq (by omega) xEy hr0
    obtain ⟨d, hd⟩ : ∃ d, q - r = d := ⟨_, rfl⟩
    rw [hd]
    obtain ⟨c, hc⟩ : ∃ c : Int, bor (q : Int) (r : Int) = c := ⟨_, rfl⟩
    have ds := rs_mod (d := d) hq (by omega : r < B) (by rw [show q + B - r = (q - r) + B by omega, Nat.add_mod_right, Nat.mod_eq_of_lt (by omega), hd]) hc
    clear hM hr hk lr ezr er hz lM b0 b1 hr0 hn h1 hd hc
    have hR := Rep.init w
    go_enter Tryz.func42, Tryz.ntmps42
    go_wp2_with (first | (refine' aAq hR ?_; clear hR; intro blk w hR) | (refine' aBq hR ?_; clear hR; intro blk w hR) | (refine' aQq hR ?_))
    refine' xEa hR [1, 1, 1, 1, 1, 1, 1, 1, 1, 1, 1, 2, 2, 2, 2, 2] 11 12 8 9 _ _ _ _ [13, 14, 15] xBd (by kernel_rfl) rfl rfl rfl rfl rfl rfl rfl (by decide) (xFb rfl rfl ?z1) (xFb rfl rfl ?z2) ?_
    case z1 => exact inferInstance
    case z2 => exact inferInstance
    intro K hK
    clear hR
    repeat ((first | (refine xAp ?_) | (refine' xAj (by decide) rfl (.inl rfl) rfl ?ha ?_) | (refine' aJq ?ha ?_) | ((first | refine' xAt (by decide) rfl rfl rfl (fun w => ?hq) ?ha ?_ | refine' xAl (by decide) rfl rfl rfl (fun w => ?hq) ?ha ?_ | refine' xBy (by decide) rfl rfl rfl (fun w => ?hq) ?ha ?_); (case hq => go_simp; try rfl)) | (refine' xBk rfl rfl rfl (xAi Tryz.func131 (by kernel_rfl) (by kernel_rfl) _) (fun w => o1 w) ?ha ?_) | (refine' xBk rfl rfl rfl (xAi Tryz.func130 (by kernel_rfl) (by kernel_rfl) _) (fun w => dq w) ?ha ?_) | (refine' xDy (by decide) rfl rfl rfl (fun w => ?hq) ?ha ?_; (case hq => go_simp; try rfl); (case ha => simp only [kP, kQ, kA, kB]; try rfl))); try (case ha => simp only [kP, kQ, kA, kB]; try rfl))
    try simp only [List.nil_append, List.cons_append]
    refine xAo (hK _ _ (fun _ _ => ?_))
    clear hK K
    refine xAr (fun Q hQ => ?_)
    simp only [kP, kQ, kA, kB]
    repeat ((first | refine' xBf rfl (.inr rfl) rfl ?hk ?ha ?_ | (refine' aKq ?hk ?ha ?_)); (case hk => intro p hp; repeat (first | exact hp | apply mT)); (case ha => simp only [kP, kQ, kA, kB]; try rfl))
    refine xAs (fun w hR => hQ _ _ ?_)
    clear hQ Q
    go_wp2_with (first | (refine' aBq hR ?_; clear hR; intro blk w hR) | (refine' aEq hR ?_) | (refine' aQq hR ?_) | (refine' aFq hR ?_; clear hR; intro w hR) | (go_at_call 132; refine (ds _).mono ?_; rintro e w ⟨rfl, hb⟩; replace hR := hR.call hb; clear hb))
    (refine' bodyPost_ret (xAq Tryz.results42 rfl (hR.loadAll (P := Tryz.prog) (ty := 24) ?hm ?hn)) rfl ⟨?_, hR.below⟩; (case hm => first | with_reducible assumption | repeat (first | exact .head _ | apply mT)); (case hn => first | rfl | simp))
    rfl
end Go.Proofs.YtaaahfjpnggkbaaGreatDoor
