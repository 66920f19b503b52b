import Derived.Test.YtaaahfjpnggkbaaGreatDoorZG
import Derived.Test.YtaaahfjpnggkbaaGreatDoorZRefWide
import Derived.Test.YtaaahfjpnggkbaaGreatDoorZDA
import Derived.Test.YtaaahfjpnggkbaaGreatDoorZM
import Derived.Test.YtaaahfjpnggkbaaGreatDoorZEE
import Derived.Test.YtaaahfjpnggkbaaGreatDoorZD
set_option linter.unusedSimpArgs false
set_option linter.unusedVariables false
set_option maxRecDepth 100000
set_option maxHeartbeats 20000000
namespace Go.Proofs.YtaaahfjpnggkbaaGreatDoor
open Go.RowKit
section
attribute [local irreducible] Calls
theorem rm_lit {a b l h : Nat} (ha : a < B) (hb : b < B) (hl : a * b % B = l) (hh : a * b / B = h) (w : World) : Calls Tryz.prog 233 #[num a, num b] w fun e w' =>
  e = .returned (.tuple #[num l, num h]) ∧ Below w.heap.size w w' := by
 have := refMul_any a b ha hb w
 rw [hh, ← xHb (a * b), hl] at this
 exact this
theorem rw_lit {a b m r : Nat} {e : Int} (ha : a < B) (hb : b < B) (hm : m < B) (hr : widN a b m = r) (he : (if m = 0 then (1 : Int) else 0) = e) (w : World) : Calls Tryz.prog 234 #[num a, num b, num m] w fun e' w' =>
  e' = .returned (.tuple #[num r, .int .i64 e]) ∧ Below w.heap.size w w' := by
 have := refWide_any a b m ha hb hm w
 rwa [hr, he] at this
theorem ra_mod {a b s : Nat} {c : Int} (ha : a < B) (hb : b < B) (hs : (a + b) % B = s) (hc : (((a + b) / B : Nat) : Int) = c) (w : World) : Calls Tryz.prog 196 #[num a, num b] w fun e w' =>
  e = .returned (.tuple #[num s, .int .u64 c]) ∧ Below w.heap.size w w' := by
 have := refAdd_any a b ha hb w
 rw [hc, ← xHb (a + b), hs] at this
 exact this
theorem rs_mod {a b d : Nat} {c : Int} (ha : a < B) (hb : b < B) (hd : (a + B - b) % B = d) (hc : bor (a : Int) (b : Int) = c) (w : World) : Calls Tryz.prog 132 #[num a, num b] w fun e w' =>
  e = .returned (.tuple #[num d, .int .u64 c]) ∧ Below w.heap.size w w' := by
 have := refSub_any a b ha hb w
 rw [hc, ← xHb (a + B - b), hd] at this
 exact this
theorem xCz (a b m : Nat) (ha : a < B) (hb : b < B) (hm : m < B) (w : World) : Calls Tryz.prog 211 #[num a, num b, num m] w fun e w' =>
  e = .returned (.bool (decide (okM a b m))) ∧ Below w.heap.size w w' := by
 obtain ⟨n1, h1⟩ : ∃ n, n = 1 := ⟨_, rfl⟩
 have o1 : ∀ w, Calls Tryz.prog 131 #[.int .u64 1] w fun e w' => e = .returned (num n1) ∧ Below w.heap.size w w' := fun w => by
  rw [h1]; exact xCr 1 (by decide) w
 have L1 : n1 < B := lt_B (by omega)
 have c1 := rc_lit hm L1 rfl
 have c2 := rc_lit ha hm rfl
 have c3 := rc_lit hb hm rfl
 have k1 := cmpN_gt m n1
 have k2 := cmpN_lt a m
 have k3 := cmpN_lt b m
 generalize cmpN m n1 = x1 at *
 generalize cmpN a m = x2 at *
 generalize cmpN b m = x3 at *
 by_cases j1 : 0 < x1
 ·by_cases j2 : x2 < 0
  ·by_cases j3 : x3 < 0
   ·rw [decide_eq_true (show okM a b m from ⟨by have := k1.mp j1; omega, k2.mp j2, k3.mp j3⟩)]
    clear k1 k2 k3 L1 h1
    have hR := Rep.init w
    go_enter Tryz.func211, Tryz.ntmps211
    go_wp2_with (first | (refine' aAq hR ?_; clear hR; intro blk w hR) | (refine' aBq hR ?_; clear hR; intro blk w hR) | (refine' aCq hR ?_) | (refine' aDq hR ?_) | (refine' aEq hR ?_) | (refine' aFq hR ?_; clear hR; intro w hR) | (refine' aGq hR ?_; clear hR; intro w hR) | fail)
    refine xAe hR [0, 0, 0, 0, 0, 0, 0, 0, 0, 0, 0, 0, 0, 0, 0, 0, 2] [] xBo (by kernel_rfl) rfl rfl (fun K hK => ?_)
    clear hR
    repeat ((first | (refine xAy ?_) | (refine' xAk (by decide) rfl (.inl rfl) rfl ?ha ?_) | (refine' xAk (by decide) rfl (.inr rfl) rfl ?ha ?_) | (refine' aHq ?ha ?_) | (refine' aIq ?ha ?_) | (refine' aJq ?ha ?_) | (refine' aKq ?ha ?_) | (refine' aLq ?ha ?_) | ((first | refine' xAc (by decide) rfl rfl rfl rfl (fun w => ?hq) ?ha ?_ | refine' xAs (by decide) rfl rfl rfl rfl (fun w => ?hq) ?ha ?_ | refine' xAi (by decide) rfl rfl rfl (fun w => ?hq) ?ha ?_ | refine' xAb (by decide) rfl rfl rfl (fun w => ?hq) ?ha ?_ | refine' xAh (by decide) rfl rfl rfl (fun w => ?hq) ?ha ?_ | refine' xAq (by decide) rfl rfl rfl rfl (fun w => ?hq) ?ha ?_ | refine' xAr (by decide) rfl rfl rfl rfl rfl rfl (fun w => ?hq) ?ha ?_ | refine' xAo (by decide) rfl rfl (fun w => ?hq) ?ha ?_ | refine' xAj (by decide) rfl rfl rfl (fun w => ?hq) ?ha ?_ | refine' xAp (by decide) rfl rfl rfl (fun w => ?hq) ?ha ?_); (case hq => go_simp; try rfl)) | (refine' xAf (by decide) rfl rfl rfl ?ha ?_) | (refine' xAx (by decide) rfl rfl rfl rfl ?ha ?_) | (refine' xAw (by decide) rfl ?ha ?_) | (refine' xAt rfl rfl rfl (xAv Tryz.func131 (by kernel_rfl) (by kernel_rfl) _) (fun w => o1 w) ?ha ?_) | (refine' xAt rfl rfl rfl (xAv Tryz.func185 (by kernel_rfl) (by kernel_rfl) _) (fun w => c1 w) ?ha ?_) | (refine' xAt rfl rfl rfl (xAv Tryz.func185 (by kernel_rfl) (by kernel_rfl) _) (fun w => c2 w) ?ha ?_) | (refine' xAt rfl rfl rfl (xAv Tryz.func185 (by kernel_rfl) (by kernel_rfl) _) (fun w => c3 w) ?ha ?_)); try (case ha => simp only [kP, kQ, kA, kB]; try rfl))
    refine xBb (hK _ _ ?_)
    clear hK K
    refine xBe (fun Q hQ => ?_)
    try simp only [List.nil_append, List.cons_append]
    repeat ((first | refine' xAm rfl (.inl rfl) rfl ?hk ?ha ?_ | refine' xAm rfl (.inr rfl) rfl ?hk ?ha ?_ | (refine' aMq ?hk ?ha ?_) | (refine' aNq ?hk ?ha ?_) | (refine' aOq ?hk ?ha ?_) | (refine' xAz rfl (fun w => ?hq) ?hk ?ha ?_; (case hq => go_simp; try rfl))); (case hk => intro p hp; first | exact absurd hp List.not_mem_nil | (obtain rfl := List.mem_singleton.1 hp; repeat (first | exact List.Mem.head _ | apply mT))); (case ha => simp only [kP, kQ, kA, kB]; try rfl))
    refine xBd (fun w hR => hQ _ _ ?_)
    clear hQ Q
    go_wp2_with (first | (refine' aAq hR ?_; clear hR; intro blk w hR) | (refine' aBq hR ?_; clear hR; intro blk w hR) | (refine' aCq hR ?_) | (refine' aDq hR ?_) | (refine' aEq hR ?_) | (refine' aFq hR ?_; clear hR; intro w hR) | (refine' aGq hR ?_; clear hR; intro w hR) | fail)
    go_ret
    exact ⟨rfl, hR.below⟩
   ·rw [decide_eq_false (fun h : okM a b m => j3 (k3.mpr h.2.2))]
    have j4 : decide (x3 < 0) = false := decide_eq_false j3
    clear k1 k2 k3 L1 h1
    have hR := Rep.init w
    go_enter Tryz.func211, Tryz.ntmps211
    go_wp2_with (first | (refine' aAq hR ?_; clear hR; intro blk w hR) | (refine' aBq hR ?_; clear hR; intro blk w hR) | (refine' aCq hR ?_) | (refine' aDq hR ?_) | (refine' aEq hR ?_) | (refine' aFq hR ?_; clear hR; intro w hR) | (refine' aGq hR ?_; clear hR; intro w hR) | fail)
    refine xAe hR [0, 0, 0, 0, 0, 0, 0, 0, 0, 0, 0, 0, 0, 0, 0, 0, 2] [] xBo (by kernel_rfl) rfl rfl (fun K hK => ?_)
    clear hR
    repeat ((first | (refine xAy ?_) | (refine' xAk (by decide) rfl (.inl rfl) rfl ?ha ?_) | (refine' xAk (by decide) rfl (.inr rfl) rfl ?ha ?_) | (refine' aHq ?ha ?_) | (refine' aIq ?ha ?_) | (refine' aJq ?ha ?_) | (refine' aKq ?ha ?_) | (refine' aLq ?ha ?_) | ((first | refine' xAc (by decide) rfl rfl rfl rfl (fun w => ?hq) ?ha ?_ | refine' xAs (by decide) rfl rfl rfl rfl (fun w => ?hq) ?ha ?_ | refine' xAi (by decide) rfl rfl rfl (fun w => ?hq) ?ha ?_ | refine' xAb (by decide) rfl rfl rfl (fun w => ?hq) ?ha ?_ | refine' xAh (by decide) rfl rfl rfl (fun w => ?hq) ?ha ?_ | refine' xAq (by decide) rfl rfl rfl rfl (fun w => ?hq) ?ha ?_ | refine' xAr (by decide) rfl rfl rfl rfl rfl rfl (fun w => ?hq) ?ha ?_ | refine' xAo (by decide) rfl rfl (fun w => ?hq) ?ha ?_ | refine' xAj (by decide) rfl rfl rfl (fun w => ?hq) ?ha ?_ | refine' xAp (by decide) rfl rfl rfl (fun w => ?hq) ?ha ?_); (case hq => go_simp; try rfl)) | (refine' xAf (by decide) rfl rfl rfl ?ha ?_) | (refine' xAx (by decide) rfl rfl rfl rfl ?ha ?_) | (refine' xAw (by decide) rfl ?ha ?_) | (refine' xAt rfl rfl rfl (xAv Tryz.func131 (by kernel_rfl) (by kernel_rfl) _) (fun w => o1 w) ?ha ?_) | (refine' xAt rfl rfl rfl (xAv Tryz.func185 (by kernel_rfl) (by kernel_rfl) _) (fun w => c1 w) ?ha ?_) | (refine' xAt rfl rfl rfl (xAv Tryz.func185 (by kernel_rfl) (by kernel_rfl) _) (fun w => c2 w) ?ha ?_) | (refine' xAt rfl rfl rfl (xAv Tryz.func185 (by kernel_rfl) (by kernel_rfl) _) (fun w => c3 w) ?ha ?_)); try (case ha => simp only [kP, kQ, kA, kB]; try rfl))
    refine xBb (hK _ _ ?_)
    clear hK K
    refine xBe (fun Q hQ => ?_)
    try simp only [List.nil_append, List.cons_append]
    repeat ((first | refine' xAm rfl (.inl rfl) rfl ?hk ?ha ?_ | refine' xAm rfl (.inr rfl) rfl ?hk ?ha ?_ | (refine' aMq ?hk ?ha ?_) | (refine' aNq ?hk ?ha ?_) | (refine' aOq ?hk ?ha ?_) | (refine' xAz rfl (fun w => ?hq) ?hk ?ha ?_; (case hq => go_simp; try rfl))); (case hk => intro p hp; first | exact absurd hp List.not_mem_nil | (obtain rfl := List.mem_singleton.1 hp; repeat (first | exact List.Mem.head _ | apply mT))); (case ha => simp only [kP, kQ, kA, kB]; try rfl))
    refine xBd (fun w hR => hQ _ _ ?_)
    clear hQ Q
    go_wp2_with (first | (refine' aAq hR ?_; clear hR; intro blk w hR) | (refine' aBq hR ?_; clear hR; intro blk w hR) | (refine' aCq hR ?_) | (refine' aDq hR ?_) | (refine' aEq hR ?_) | (refine' aFq hR ?_; clear hR; intro w hR) | (refine' aGq hR ?_; clear hR; intro w hR) | fail)
    go_ret
    exact ⟨rfl, hR.below⟩
  ·rw [decide_eq_false (fun h : okM a b m => j2 (k2.mpr h.2.1))]
   have j4 : decide (x2 < 0) = false := decide_eq_false j2
   clear k1 k2 k3 L1 h1
   have hR := Rep.init w
   go_enter Tryz.func211, Tryz.ntmps211
   go_wp2_with (first | (refine' aAq hR ?_; clear hR; intro blk w hR) | (refine' aBq hR ?_; clear hR; intro blk w hR) | (refine' aCq hR ?_) | (refine' aDq hR ?_) | (refine' aEq hR ?_) | (refine' aFq hR ?_; clear hR; intro w hR) | (refine' aGq hR ?_; clear hR; intro w hR) | fail)
   refine xAe hR [0, 0, 0, 0, 0, 0, 0, 0, 0, 0, 0, 0, 0, 0, 0, 0, 2] [] xBo (by kernel_rfl) rfl rfl (fun K hK => ?_)
   clear hR
   repeat ((first | (refine xAy ?_) | (refine' xAk (by decide) rfl (.inl rfl) rfl ?ha ?_) | (refine' xAk (by decide) rfl (.inr rfl) rfl ?ha ?_) | (refine' aHq ?ha ?_) | (refine' aIq ?ha ?_) | (refine' aJq ?ha ?_) | (refine' aKq ?ha ?_) | (refine' aLq ?ha ?_) | ((first | refine' xAc (by decide) rfl rfl rfl rfl (fun w => ?hq) ?ha ?_ | refine' xAs (by decide) rfl rfl rfl rfl (fun w => ?hq) ?ha ?_ | refine' xAi (by decide) rfl rfl rfl (fun w => ?hq) ?ha ?_ | refine' xAb (by decide) rfl rfl rfl (fun w => ?hq) ?ha ?_ | refine' xAh (by decide) rfl rfl rfl (fun w => ?hq) ?ha ?_ | refine' xAq (by decide) rfl rfl rfl rfl (fun w => ?hq) ?ha ?_ | refine' xAr (by decide) rfl rfl rfl rfl rfl rfl (fun w => ?hq) ?ha ?_ | refine' xAo (by decide) rfl rfl (fun w => ?hq) ?ha ?_ | refine' xAj (by decide) rfl rfl rfl (fun w => ?hq) ?ha ?_ | refine' xAp (by decide) rfl rfl rfl (fun w => ?hq) ?ha ?_); (case hq => go_simp; try rfl)) | (refine' xAf (by decide) rfl rfl rfl ?ha ?_) | (refine' xAx (by decide) rfl rfl rfl rfl ?ha ?_) | (refine' xAw (by decide) rfl ?ha ?_) | (refine' xAt rfl rfl rfl (xAv Tryz.func131 (by kernel_rfl) (by kernel_rfl) _) (fun w => o1 w) ?ha ?_) | (refine' xAt rfl rfl rfl (xAv Tryz.func185 (by kernel_rfl) (by kernel_rfl) _) (fun w => c1 w) ?ha ?_) | (refine' xAt rfl rfl rfl (xAv Tryz.func185 (by kernel_rfl) (by kernel_rfl) _) (fun w => c2 w) ?ha ?_)); try (case ha => simp only [kP, kQ, kA, kB]; try rfl))
   refine xBb (hK _ _ ?_)
   clear hK K
   refine xBe (fun Q hQ => ?_)
   try simp only [List.nil_append, List.cons_append]
   repeat ((first | refine' xAm rfl (.inl rfl) rfl ?hk ?ha ?_ | refine' xAm rfl (.inr rfl) rfl ?hk ?ha ?_ | (refine' aMq ?hk ?ha ?_) | (refine' aNq ?hk ?ha ?_) | (refine' aOq ?hk ?ha ?_) | (refine' xAz rfl (fun w => ?hq) ?hk ?ha ?_; (case hq => go_simp; try rfl))); (case hk => intro p hp; first | exact absurd hp List.not_mem_nil | (obtain rfl := List.mem_singleton.1 hp; repeat (first | exact List.Mem.head _ | apply mT))); (case ha => simp only [kP, kQ, kA, kB]; try rfl))
   refine xBd (fun w hR => hQ _ _ ?_)
   clear hQ Q
   go_wp2_with (first | (refine' aAq hR ?_; clear hR; intro blk w hR) | (refine' aBq hR ?_; clear hR; intro blk w hR) | (refine' aCq hR ?_) | (refine' aDq hR ?_) | (refine' aEq hR ?_) | (refine' aFq hR ?_; clear hR; intro w hR) | (refine' aGq hR ?_; clear hR; intro w hR) | fail)
   go_ret
   exact ⟨rfl, hR.below⟩
 ·rw [decide_eq_false (fun h : okM a b m => j1 (k1.mpr (by have := h.1; omega)))]
  have j4 : decide (0 < x1) = false := decide_eq_false j1
  clear k1 k2 k3 L1 h1
  have hR := Rep.init w
  go_enter Tryz.func211, Tryz.ntmps211
  go_wp2_with (first | (refine' aAq hR ?_; clear hR; intro blk w hR) | (refine' aBq hR ?_; clear hR; intro blk w hR) | (refine' aCq hR ?_) | (refine' aDq hR ?_) | (refine' aEq hR ?_) | (refine' aFq hR ?_; clear hR; intro w hR) | (refine' aGq hR ?_; clear hR; intro w hR) | fail)
  refine xAe hR [0, 0, 0, 0, 0, 0, 0, 0, 0, 0, 0, 0, 0, 0, 0, 0, 2] [] xBo (by kernel_rfl) rfl rfl (fun K hK => ?_)
  clear hR
  repeat ((first | (refine xAy ?_) | (refine' xAk (by decide) rfl (.inl rfl) rfl ?ha ?_) | (refine' xAk (by decide) rfl (.inr rfl) rfl ?ha ?_) | (refine' aHq ?ha ?_) | (refine' aIq ?ha ?_) | (refine' aJq ?ha ?_) | (refine' aKq ?ha ?_) | (refine' aLq ?ha ?_) | ((first | refine' xAc (by decide) rfl rfl rfl rfl (fun w => ?hq) ?ha ?_ | refine' xAs (by decide) rfl rfl rfl rfl (fun w => ?hq) ?ha ?_ | refine' xAi (by decide) rfl rfl rfl (fun w => ?hq) ?ha ?_ | refine' xAb (by decide) rfl rfl rfl (fun w => ?hq) ?ha ?_ | refine' xAh (by decide) rfl rfl rfl (fun w => ?hq) ?ha ?_ | refine' xAq (by decide) rfl rfl rfl rfl (fun w => ?hq) ?ha ?_ | refine' xAr (by decide) rfl rfl rfl rfl rfl rfl (fun w => ?hq) ?ha ?_ | refine' xAo (by decide) rfl rfl (fun w => ?hq) ?ha ?_ | refine' xAj (by decide) rfl rfl rfl (fun w => ?hq) ?ha ?_ | refine' xAp (by decide) rfl rfl rfl (fun w => ?hq) ?ha ?_); (case hq => go_simp; try rfl)) | (refine' xAf (by decide) rfl rfl rfl ?ha ?_) | (refine' xAx (by decide) rfl rfl rfl rfl ?ha ?_) | (refine' xAw (by decide) rfl ?ha ?_) | (refine' xAt rfl rfl rfl (xAv Tryz.func131 (by kernel_rfl) (by kernel_rfl) _) (fun w => o1 w) ?ha ?_) | (refine' xAt rfl rfl rfl (xAv Tryz.func185 (by kernel_rfl) (by kernel_rfl) _) (fun w => c1 w) ?ha ?_)); try (case ha => simp only [kP, kQ, kA, kB]; try rfl))
  refine xBb (hK _ _ ?_)
  clear hK K
  refine xBe (fun Q hQ => ?_)
  try simp only [List.nil_append, List.cons_append]
  repeat ((first | refine' xAm rfl (.inl rfl) rfl ?hk ?ha ?_ | refine' xAm rfl (.inr rfl) rfl ?hk ?ha ?_ | (refine' aMq ?hk ?ha ?_) | (refine' aNq ?hk ?ha ?_) | (refine' aOq ?hk ?ha ?_) | (refine' xAz rfl (fun w => ?hq) ?hk ?ha ?_; (case hq => go_simp; try rfl))); (case hk => intro p hp; first | exact absurd hp List.not_mem_nil | (obtain rfl := List.mem_singleton.1 hp; repeat (first | exact List.Mem.head _ | apply mT))); (case ha => simp only [kP, kQ, kA, kB]; try rfl))
  refine xBd (fun w hR => hQ _ _ ?_)
  clear hQ Q
  go_wp2_with (first | (refine' aAq hR ?_; clear hR; intro blk w hR) | (refine' aBq hR ?_; clear hR; intro blk w hR) | (refine' aCq hR ?_) | (refine' aDq hR ?_) | (refine' aEq hR ?_) | (refine' aFq hR ?_; clear hR; intro w hR) | (refine' aGq hR ?_; clear hR; intro w hR) | fail)
  go_ret
  exact ⟨rfl, hR.below⟩
theorem ref04_add (a b m : Nat) (ha : a < B) (hb : b < B) (hm : m < B) (w : World) : Calls Tryz.prog 194 #[num a, num b, num m] w fun e w' =>
  e = .returned (.tuple #[num (if okM a b m then (a + b) % m else 0), .int .i64 (if okM a b m then 0 else 1)]) ∧ Below w.heap.size w w' := by
 have bp := xEs
 have cm := fun w => xCz a b m ha hb hm w
 by_cases ok : okM a b m
 ·rw [if_pos ok, if_pos ok]
  rw [decide_eq_true ok] at cm
  obtain ⟨ok1, ok2, ok3⟩ := ok
  obtain ⟨x, hx⟩ : ∃ x, (a + b) % B = x := ⟨_, rfl⟩
  obtain ⟨k, hk⟩ : ∃ k, (a + b) / B = k := ⟨_, rfl⟩
  have hdm := Nat.div_add_mod (a + b) B
  rw [hx, hk] at hdm
  have lx : x < B := by rw [← hx]; exact Nat.mod_lt _ bp
  have lk : k < 2 := by rw [← hk, Nat.div_lt_iff_lt_mul bp]; omega
  obtain ⟨y, hy⟩ : ∃ y, (x + B - m) % B = y := ⟨_, rfl⟩
  have s1 := ra_mod (c := (k : Int)) ha hb hx (by rw [hk])
  have d1 := rs_mod lx hm hy rfl
  have cc := rc_lit lx hm rfl
  have hcg := xFj x m
  generalize cmpN x m = t at *
  have hk2 : k = 0 ∨ k = 1 := by omega
  by_cases hc : m ≤ a + b
  ·have hr : (a + b) % m = a + b - m := by rw [Nat.mod_eq_sub_mod hc, Nat.mod_eq_of_lt (by omega)]
   have ey : y = (a + b) % m := by
    rw [hr, ← hy]
    rcases hk2 with rfl | rfl
    ·rw [show x + B - m = (a + b - m) + B by omega, Nat.add_mod_right, Nat.mod_eq_of_lt (by omega)]
    ·rw [show x + B - m = a + b - m by omega, Nat.mod_eq_of_lt (by omega)]
   rw [← ey]
   have hcase : (k : Int) = 1 ∨ ((k : Int) = 0 ∧ 0 ≤ t) := by
    rcases hk2 with rfl | rfl
    ·exact .inr ⟨rfl, hcg.mpr (by omega)⟩
    ·exact .inl rfl
   generalize bor (x : Int) (m : Int) = l at *
   generalize (k : Int) = kk at *
   clear hcg hc hr ey hx hk hdm lx lk hk2 hy bp ok1 ok2 ok3
   have hR := Rep.init w
   rcases hcase with rfl | ⟨rfl, cg⟩
   all_goals
    go_enter Tryz.func194, Tryz.ntmps194
    go_wp2_with (first | (refine' aAq hR ?_; clear hR; intro blk w hR) | (refine' aBq hR ?_; clear hR; intro blk w hR) | (refine' aCq hR ?_) | (refine' aDq hR ?_) | (refine' aEq hR ?_) | (refine' aFq hR ?_; clear hR; intro w hR) | (refine' aGq hR ?_; clear hR; intro w hR) | (refine' aXq hR ?_) | (refine' aYq hR ?_) | (go_at_call 211; refine (cm _).mono ?_; rintro e w ⟨rfl, hb⟩; replace hR := hR.call hb; clear hb) | (go_at_call 196; refine (s1 _).mono ?_; rintro e w ⟨rfl, hb⟩; replace hR := hR.call hb; clear hb) | (go_at_call 132; refine (d1 _).mono ?_; rintro e w ⟨rfl, hb⟩; replace hR := hR.call hb; clear hb) | (go_at_call 185; refine (cc _).mono ?_; rintro e w ⟨rfl, hb⟩; replace hR := hR.call hb; clear hb))
    (refine' bodyPost_ret (xAu Tryz.results194 rfl (hR.loadAll (P := Tryz.prog) (ty := 24) ?hm ?hn)) rfl ⟨?_, hR.below⟩; (case hm => first | with_reducible assumption | repeat (first | exact .head _ | apply mT)); (case hn => first | rfl | simp))
    rfl
  ·have hr : (a + b) % m = x := by
    rw [Nat.mod_eq_of_lt (by omega), ← hx, Nat.mod_eq_of_lt (by omega)]
   have k0 : (k : Int) = 0 := by
    rw [← hk, Nat.div_eq_of_lt (by omega)]; rfl
   have cg : ¬ 0 ≤ t := fun h => by
    have := hcg.mp h
    rw [← hx, Nat.mod_eq_of_lt (by omega)] at this
    omega
   rw [hr]
   rw [k0] at s1
   clear hcg hc hr hx hk hdm lx lk hk2 hy bp ok1 ok2 ok3 d1 k0
   have hR := Rep.init w
   go_enter Tryz.func194, Tryz.ntmps194
   go_wp2_with (first | (refine' aAq hR ?_; clear hR; intro blk w hR) | (refine' aBq hR ?_; clear hR; intro blk w hR) | (refine' aCq hR ?_) | (refine' aDq hR ?_) | (refine' aEq hR ?_) | (refine' aFq hR ?_; clear hR; intro w hR) | (refine' aGq hR ?_; clear hR; intro w hR) | (refine' aXq hR ?_) | (refine' aYq hR ?_) | (go_at_call 211; refine (cm _).mono ?_; rintro e w ⟨rfl, hb⟩; replace hR := hR.call hb; clear hb) | (go_at_call 196; refine (s1 _).mono ?_; rintro e w ⟨rfl, hb⟩; replace hR := hR.call hb; clear hb) | (go_at_call 185; refine (cc _).mono ?_; rintro e w ⟨rfl, hb⟩; replace hR := hR.call hb; clear hb))
   (refine' bodyPost_ret (xAu Tryz.results194 rfl (hR.loadAll (P := Tryz.prog) (ty := 24) ?hm ?hn)) rfl ⟨?_, hR.below⟩; (case hm => first | with_reducible assumption | repeat (first | exact .head _ | apply mT)); (case hn => first | rfl | simp))
   rfl
 ·rw [if_neg ok, if_neg ok]
  rw [decide_eq_false ok] at cm
  clear ok bp
  have hR := Rep.init w
  go_enter Tryz.func194, Tryz.ntmps194
  go_wp2_with (first | (refine' aAq hR ?_; clear hR; intro blk w hR) | (refine' aBq hR ?_; clear hR; intro blk w hR) | (refine' aCq hR ?_) | (refine' aDq hR ?_) | (refine' aEq hR ?_) | (refine' aFq hR ?_; clear hR; intro w hR) | (refine' aGq hR ?_; clear hR; intro w hR) | (go_at_call 211; refine (cm _).mono ?_; rintro e w ⟨rfl, hb⟩; replace hR := hR.call hb; clear hb))
  (refine' bodyPost_ret (xAu Tryz.results194 rfl (hR.loadAll (P := Tryz.prog) (ty := 24) ?hm ?hn)) rfl ⟨?_, hR.below⟩; (case hm => first | with_reducible assumption | repeat (first | exact .head _ | apply mT)); (case hn => first | rfl | simp))
  rw [xBn]
  rfl
theorem ref04_sub (a b m : Nat) (ha : a < B) (hb : b < B) (hm : m < B) (w : World) : Calls Tryz.prog 200 #[num a, num b, num m] w fun e w' =>
  e = .returned (.tuple #[num (if okM a b m then subN a b m else 0), .int .i64 (if okM a b m then 0 else 1)]) ∧ Below w.heap.size w w' := by
 have bp := xEs
 have cm := fun w => xCz a b m ha hb hm w
 by_cases ok : okM a b m
 ·rw [if_pos ok, if_pos ok]
  rw [decide_eq_true ok] at cm
  obtain ⟨ok1, ok2, ok3⟩ := ok
  obtain ⟨x, hx⟩ : ∃ x, (a + B - b) % B = x := ⟨_, rfl⟩
  have lx : x < B := by rw [← hx]; exact Nat.mod_lt _ bp
  obtain ⟨r, hr⟩ : ∃ r, subN a b m = r := ⟨_, rfl⟩
  rw [hr]
  rw [xFr] at hr
  by_cases hc : a < b
  ·have d1 := rs_mod (c := 1) ha hb hx (by rw [xDh, if_pos (by omega)])
   have e1 : x = a + B - b := by rw [← hx, Nat.mod_eq_of_lt (by omega)]
   have e2 : r = a + (m - b) := by rw [← hr, Nat.mod_eq_of_lt (by omega)]
   obtain ⟨c, hcc⟩ : ∃ c : Int, (((x + m) / B : Nat) : Int) = c := ⟨_, rfl⟩
   have s1 := ra_mod (s := r) lx hm (by rw [e1, e2, show a + B - b + m = (a + (m - b)) + B by omega, Nat.add_mod_right, Nat.mod_eq_of_lt (by omega)]) hcc
   clear bp hx lx hr hc e1 e2 hcc ok1 ok2 ok3
   have hR := Rep.init w
   go_enter Tryz.func200, Tryz.ntmps200
   go_wp2_with (first | (refine' aAq hR ?_; clear hR; intro blk w hR) | (refine' aBq hR ?_; clear hR; intro blk w hR) | (refine' aCq hR ?_) | (refine' aDq hR ?_) | (refine' aEq hR ?_) | (refine' aFq hR ?_; clear hR; intro w hR) | (refine' aGq hR ?_; clear hR; intro w hR) | (go_at_call 211; refine (cm _).mono ?_; rintro e w ⟨rfl, hb⟩; replace hR := hR.call hb; clear hb) | (go_at_call 196; refine (s1 _).mono ?_; rintro e w ⟨rfl, hb⟩; replace hR := hR.call hb; clear hb) | (go_at_call 132; refine (d1 _).mono ?_; rintro e w ⟨rfl, hb⟩; replace hR := hR.call hb; clear hb))
   (refine' bodyPost_ret (xAu Tryz.results200 rfl (hR.loadAll (P := Tryz.prog) (ty := 24) ?hm ?hn)) rfl ⟨?_, hR.below⟩; (case hm => first | with_reducible assumption | repeat (first | exact .head _ | apply mT)); (case hn => first | rfl | simp))
   rfl
  ·have d1 := rs_mod (c := 0) ha hb hx (by rw [xDh, if_neg (by omega)])
   have e2 : r = x := by
    rw [← hr, ← hx, show a + (m - b) = (a - b) + m by omega, Nat.add_mod_right, Nat.mod_eq_of_lt (by omega), show a + B - b = (a - b) + B by omega, Nat.add_mod_right, Nat.mod_eq_of_lt (by omega)]
   rw [e2]
   clear bp hx lx hr hc e2 ok1 ok2 ok3
   have hR := Rep.init w
   go_enter Tryz.func200, Tryz.ntmps200
   go_wp2_with (first | (refine' aAq hR ?_; clear hR; intro blk w hR) | (refine' aBq hR ?_; clear hR; intro blk w hR) | (refine' aCq hR ?_) | (refine' aDq hR ?_) | (refine' aEq hR ?_) | (refine' aFq hR ?_; clear hR; intro w hR) | (refine' aGq hR ?_; clear hR; intro w hR) | (go_at_call 211; refine (cm _).mono ?_; rintro e w ⟨rfl, hb⟩; replace hR := hR.call hb; clear hb) | (go_at_call 132; refine (d1 _).mono ?_; rintro e w ⟨rfl, hb⟩; replace hR := hR.call hb; clear hb))
   (refine' bodyPost_ret (xAu Tryz.results200 rfl (hR.loadAll (P := Tryz.prog) (ty := 24) ?hm ?hn)) rfl ⟨?_, hR.below⟩; (case hm => first | with_reducible assumption | repeat (first | exact .head _ | apply mT)); (case hn => first | rfl | simp))
   rfl
 ·rw [if_neg ok, if_neg ok]
  rw [decide_eq_false ok] at cm
  clear ok bp
  have hR := Rep.init w
  go_enter Tryz.func200, Tryz.ntmps200
  go_wp2_with (first | (refine' aAq hR ?_; clear hR; intro blk w hR) | (refine' aBq hR ?_; clear hR; intro blk w hR) | (refine' aCq hR ?_) | (refine' aDq hR ?_) | (refine' aEq hR ?_) | (refine' aFq hR ?_; clear hR; intro w hR) | (refine' aGq hR ?_; clear hR; intro w hR) | (go_at_call 211; refine (cm _).mono ?_; rintro e w ⟨rfl, hb⟩; replace hR := hR.call hb; clear hb))
  (refine' bodyPost_ret (xAu Tryz.results200 rfl (hR.loadAll (P := Tryz.prog) (ty := 24) ?hm ?hn)) rfl ⟨?_, hR.below⟩; (case hm => first | with_reducible assumption | repeat (first | exact .head _ | apply mT)); (case hn => first | rfl | simp))
  rw [xBn]
  rfl
theorem word_pair (a b m : Nat) (ha : a < m) (hb : b < 18446744073709551616) (hm : m < 18446744073709551616) : ∃ h l q : Nat,
  (∀ w, Calls Tryz.prog 232 #[.int .u64 (a : Int), .int .u64 (b : Int)] w fun e w' => e = .returned (.tuple #[.int .u64 (h : Int), .int .u64 (l : Int)]) ∧ Below w.heap.size w w') ∧
  (∀ w, Calls Tryz.prog 229 #[.int .u64 (h : Int), .int .u64 (l : Int), .int .u64 (m : Int)] w fun e w' => e = .returned (.tuple #[.int .u64 (q : Int), .int .u64 ((mulN a b m : Nat) : Int)]) ∧ Below w.heap.size w w') := by
 refine ⟨a * b / 18446744073709551616, a * b % 18446744073709551616, a * b / m, fun w => ?_, fun w => ?_⟩
 ·have m1 := mul64_any a b (by omega) hb w
  rwa [mhi_def, mlo_def] at m1
 ·have lh : a * b / 18446744073709551616 < m := by
   rw [Nat.div_lt_iff_lt_mul (by decide)]
   exact Nat.mul_lt_mul_of_lt_of_le ha (by omega) (by omega)
  have d1 := xFu (a * b / 18446744073709551616) (a * b % 18446744073709551616) m lh hm (Nat.mod_lt _ (by decide)) w
  rw [show a * b / 18446744073709551616 * 18446744073709551616 + a * b % 18446744073709551616 = a * b by rw [Nat.mul_comm]; exact Nat.div_add_mod _ _, ← xCe a b m] at d1
  exact d1
theorem xEl (a b m : Nat) (ha : a < m) (hb : b < m) (hm : m < B) (w : World) : Calls Tryz.prog 213 #[num a, num b, num m] w fun e w' =>
  e = .returned (num (mulN a b m)) ∧ Below w.heap.size w w' := by
 have bp := xEs
 have cw := fun w => xCc m hm w
 have lr : mulN a b m < m := by rw [xCe]; exact Nat.mod_lt _ (by omega)
 by_cases hs : m < 18446744073709551616
 ·rw [decide_eq_true hs] at cw
  have ea : wd a 0 = (a : Int) := by rw [xFa]; unfold w64; omega
  have eb : wd b 0 = (b : Int) := by rw [xFa]; unfold w64; omega
  have em : wd m 0 = (m : Int) := by rw [xFa]; unfold w64; omega
  obtain ⟨h, l, q, m1, d1⟩ := word_pair a b m ha (by omega) hs
  rw [← ea, ← eb] at m1
  rw [← em] at d1
  have o1 := fun w => xCr (mulN a b m) (by omega) w
  generalize mulN a b m = r at *
  clear lr hs ea eb em bp
  have hR := Rep.init w
  go_enter Tryz.func213, Tryz.ntmps213
  go_wp2_with (first | (refine' aAq hR ?_; clear hR; intro blk w hR) | (refine' aBq hR ?_; clear hR; intro blk w hR) | (refine' aCq hR ?_) | (refine' aDq hR ?_) | (refine' aEq hR ?_) | (refine' aFq hR ?_; clear hR; intro w hR) | (refine' aGq hR ?_; clear hR; intro w hR) | (go_at_call 195; refine (cw _).mono ?_; rintro e w ⟨rfl, hb⟩; replace hR := hR.call hb; clear hb) | (go_at_call 232; refine (m1 _).mono ?_; rintro e w ⟨rfl, hb⟩; replace hR := hR.call hb; clear hb) | (go_at_call 229; refine (d1 _).mono ?_; rintro e w ⟨rfl, hb⟩; replace hR := hR.call hb; clear hb) | (go_at_call 131; refine (o1 _).mono ?_; rintro e w ⟨rfl, hb⟩; replace hR := hR.call hb; clear hb))
  (refine' bodyPost_ret (xBc Tryz.results213 rfl (hR.loadAll (P := Tryz.prog) (ty := 24) ?hm ?hn)) rfl ⟨?_, hR.below⟩; (case hm => first | with_reducible assumption | repeat (first | exact .head _ | apply mT)); (case hn => first | rfl | simp))
  rfl
 ·rw [decide_eq_false hs] at cw
  obtain ⟨r, hr⟩ : ∃ r, mulN a b m = r := ⟨_, rfl⟩
  rw [hr]
  rw [xCe] at hr
  obtain ⟨l, hll⟩ : ∃ l, a * b % B = l := ⟨_, rfl⟩
  obtain ⟨h, hh⟩ : ∃ h, a * b / B = h := ⟨_, rfl⟩
  have ll : l < B := by rw [← hll]; exact Nat.mod_lt _ bp
  have lh : h < B := by
   rw [← hh, Nat.div_lt_iff_lt_mul bp]
   exact Nat.mul_lt_mul_of_lt_of_le (by omega) (by omega) (by omega)
  have m1 := rm_lit (by omega : a < B) (by omega : b < B) hll hh
  have w1 := rw_lit (r := r) (e := 0) ll lh hm (by
   have e := Nat.div_add_mod (a * b) B
   rw [hll, hh, Nat.mul_comm] at e
   rw [xEw, if_neg (by omega), e, hr]) (by rw [if_neg (by omega)])
  clear hr lr hs hll hh ll lh bp
  have hR := Rep.init w
  go_enter Tryz.func213, Tryz.ntmps213
  go_wp2_with (first | (refine' aAq hR ?_; clear hR; intro blk w hR) | (refine' aBq hR ?_; clear hR; intro blk w hR) | (refine' aCq hR ?_) | (refine' aDq hR ?_) | (refine' aEq hR ?_) | (refine' aFq hR ?_; clear hR; intro w hR) | (refine' aGq hR ?_; clear hR; intro w hR) | (go_at_call 195; refine (cw _).mono ?_; rintro e w ⟨rfl, hb⟩; replace hR := hR.call hb; clear hb) | (go_at_call 233; refine (m1 _).mono ?_; rintro e w ⟨rfl, hb⟩; replace hR := hR.call hb; clear hb) | (go_at_call 234; refine (w1 _).mono ?_; rintro e w ⟨rfl, hb⟩; replace hR := hR.call hb; clear hb))
  (refine' bodyPost_ret (xBc Tryz.results213 rfl (hR.loadAll (P := Tryz.prog) (ty := 24) ?hm ?hn)) rfl ⟨?_, hR.below⟩; (case hm => first | with_reducible assumption | repeat (first | exact .head _ | apply mT)); (case hn => first | rfl | simp))
  rfl
theorem ref04_mul (a b m : Nat) (ha : a < B) (hb : b < B) (hm : m < B) (w : World) : Calls Tryz.prog 180 #[num a, num b, num m] w fun e w' =>
  e = .returned (.tuple #[num (if okM a b m then mulN a b m else 0), .int .i64 (if okM a b m then 0 else 1)]) ∧ Below w.heap.size w w' := by
 have cm := fun w => xCz a b m ha hb hm w
 by_cases ok : okM a b m
 ·rw [if_pos ok, if_pos ok]
  rw [decide_eq_true ok] at cm
  have ct := fun w => xEl a b m ok.2.1 ok.2.2 hm w
  generalize mulN a b m = r at *
  clear ok
  have hR := Rep.init w
  go_enter Tryz.func180, Tryz.ntmps180
  go_wp2_with (first | (refine' aAq hR ?_; clear hR; intro blk w hR) | (refine' aBq hR ?_; clear hR; intro blk w hR) | (refine' aCq hR ?_) | (refine' aDq hR ?_) | (refine' aEq hR ?_) | (refine' aFq hR ?_; clear hR; intro w hR) | (refine' aGq hR ?_; clear hR; intro w hR) | (go_at_call 211; refine (cm _).mono ?_; rintro e w ⟨rfl, hb⟩; replace hR := hR.call hb; clear hb) | (go_at_call 213; refine (ct _).mono ?_; rintro e w ⟨rfl, hb⟩; replace hR := hR.call hb; clear hb))
  (refine' bodyPost_ret (xAu Tryz.results180 rfl (hR.loadAll (P := Tryz.prog) (ty := 24) ?hm ?hn)) rfl ⟨?_, hR.below⟩; (case hm => first | with_reducible assumption | repeat (first | exact .head _ | apply mT)); (case hn => first | rfl | simp))
  rfl
 ·rw [if_neg ok, if_neg ok]
  rw [decide_eq_false ok] at cm
  clear ok
  have hR := Rep.init w
  go_enter Tryz.func180, Tryz.ntmps180
  go_wp2_with (first | (refine' aAq hR ?_; clear hR; intro blk w hR) | (refine' aBq hR ?_; clear hR; intro blk w hR) | (refine' aCq hR ?_) | (refine' aDq hR ?_) | (refine' aEq hR ?_) | (refine' aFq hR ?_; clear hR; intro w hR) | (refine' aGq hR ?_; clear hR; intro w hR) | (go_at_call 211; refine (cm _).mono ?_; rintro e w ⟨rfl, hb⟩; replace hR := hR.call hb; clear hb))
  (refine' bodyPost_ret (xAu Tryz.results180 rfl (hR.loadAll (P := Tryz.prog) (ty := 24) ?hm ?hn)) rfl ⟨?_, hR.below⟩; (case hm => first | with_reducible assumption | repeat (first | exact .head _ | apply mT)); (case hn => first | rfl | simp))
  rw [xBn]
  rfl
end
section
attribute [local irreducible] Calls
theorem refWordPow_any (a n m : Nat) (ha : a < m) (hn : n < B) (h1 : 1 < m) (hs : m < 18446744073709551616) (w : World) : Calls Tryz.prog 221 #[.int .u64 (a : Int), num n, .int .u64 (m : Int)] w fun e w' =>
  e = .returned (.int .u64 ((powN a n m : Nat) : Int)) ∧ Below w.heap.size w w' := by
 have cb := fun w => xJm n hn w
 have hn1 : blen n ≤ 256 := (xBk _ _).mpr (by rw [B_eq] at hn; exact hn)
 have hn2 := xEp n
 generalize blen n = N at *
 have em1 : ((m : Int) == 0) = false := by
  simp
  omega
 have em2 : ¬ (m : Int) = 0 := by omega
 have em3 : (1 : Int).tmod (m : Int) = 1 := by rw [Int.tmod_eq_emod_of_nonneg (by decide)]; exact Int.emod_eq_of_lt (by decide) (by omega)
 have kb : (N : Int) ≤ 256 := by omega
 have kN : IntKind.i64.wrap ((N : Int) - 1) = (N : Int) - 1 := by rw [IntKind.wrap_i64]; omega
 have hR := Rep.init w
 go_enter Tryz.func221, Tryz.ntmps221
 go_wp2_with (first | (refine' aAq hR ?_; clear hR; intro blk w hR) | (refine' aBq hR ?_; clear hR; intro blk w hR) | (refine' aCq hR ?_) | (refine' aDq hR ?_) | (refine' aEq hR ?_) | (refine' aFq hR ?_; clear hR; intro w hR) | (refine' aGq hR ?_; clear hR; intro w hR) | (go_at_call 222; refine (cb _).mono ?_; rintro e w ⟨rfl, hb⟩; replace hR := hR.call hb; clear hb))
 clear em1 em2 em3
 refine' xBp (false :: false :: false :: false :: false :: false :: false :: false :: false :: true :: true :: false :: false :: false :: false :: false :: true :: true :: true :: true :: true :: true :: true :: true :: true :: true :: true :: true :: true :: true :: true :: true :: true :: true :: true :: true :: true :: true :: true :: true :: true :: true :: true :: true :: true :: true :: true :: true :: true :: true :: true :: true :: true :: true :: true :: false :: []) (fun j l => (l.set 7 (.int .u64 ((pR a n m j : Nat) : Int))).set 8 (.int .i64 ((j : Int) - 1))) (fun j => [(blk, .cells (nl n).toArray 24)]) N ?h0 ?hR ?hs ?he
 case hR => exact hR
 case h0 =>
  simp only [pR_top h1 hn2]
  exact xAn rfl rfl rfl
 case hs =>
  clear hR
  intro j tm w hj ht hR K hK
  repeat (first | (obtain ⟨x, tm', e, ht'⟩ := xAg ht; clear ht; subst e; have ht := ht'; clear ht') | (obtain ⟨tm', e, ht'⟩ := xAd ht; clear ht; subst e; have ht := ht'; clear ht'))
  obtain rfl := xAl ht
  clear ht
  obtain ⟨T, hT, hbit⟩ := xHj a n m j
  have hP := pR_lt h1 a n (j + 1)
  have lT : T < m := by rw [← hT, xCe]; exact Nat.mod_lt _ (by omega)
  obtain ⟨h, l, q, m1, d1⟩ := word_pair (pR a n m (j + 1)) (pR a n m (j + 1)) m hP (by omega) hs
  rw [hT] at d1
  generalize pR a n m (j + 1) = R at *
  have e1 : ((j + 1 : Nat) : Int) - 1 = (j : Int) := by omega
  rw [e1]
  have hbw := bit_plain n (j : Int) (by omega)
  rw [xDc n j (by omega)] at hbw
  have hv := nl_at n (j / 64) (by omega)
  have l0 := xDq n (j / 64)
  have l1 := xEc n (j / 64)
  obtain ⟨x, hx⟩ : ∃ x, j / 64 = x := ⟨_, rfl⟩
  obtain ⟨y, hy⟩ : ∃ y, j % 64 = y := ⟨_, rfl⟩
  have e1 : (j : Int) / 64 = (x : Int) := by omega
  have e4 : (j : Int) % 64 = (y : Int) := by omega
  rw [e1, e4, Int.toNat_natCast, Int.toNat_natCast] at hbw
  rw [hx] at hv l0 l1
  have e2 : IntKind.i64.wrap (x : Int) = (x : Int) := by rw [IntKind.wrap_i64]; omega
  have e3 : (j : Int).tmod 64 = (y : Int) := by rw [Int.tmod_eq_emod_of_nonneg (by omega)]; omega
  have e5 : IntKind.i64.wrap (y : Int) = (y : Int) := by rw [IntKind.wrap_i64]; omega
  have e6 : (x : Int) < 4 := by omega
  have e7 : (y : Int) < 64 := by omega
  have e8 : 0 ≤ (x : Int) := by omega
  have e9 : 0 ≤ (y : Int) := by omega
  have e10 : x < 4 := by omega
  have kj0 : 0 ≤ (j : Int) := by omega
  have kj1 : (j : Int) < 256 := by omega
  clear hx hy hj hn1 hn2 kN kb cb
  rcases hbit with ⟨hb, hS⟩ | ⟨hb, hS⟩
  ·rw [hb] at hbw
   rw [hS] at hK
   clear hb hS hT lT hP
   go_wp2_with (first | (refine' aAq hR ?_; clear hR; intro blk w hR) | (refine' aBq hR ?_; clear hR; intro blk w hR) | (refine' aCq hR ?_) | (refine' aDq hR ?_) | (refine' aEq hR ?_) | (refine' aFq hR ?_; clear hR; intro w hR) | (refine' aGq hR ?_; clear hR; intro w hR) | (go_at_call 232; refine (m1 _).mono ?_; rintro e w ⟨rfl, hb⟩; replace hR := hR.call hb; clear hb) | (go_at_call 229; refine (d1 _).mono ?_; rintro e w ⟨rfl, hb⟩; replace hR := hR.call hb; clear hb))
   exact hK.out _ _ (xAn rfl rfl rfl) hR
  ·rw [hb] at hbw
   obtain ⟨h', l', q', m2, d2⟩ := word_pair T a m lT (by omega) hs
   rw [hS] at d2
   clear hb hS hT lT hP
   go_wp2_with (first | (refine' aAq hR ?_; clear hR; intro blk w hR) | (refine' aBq hR ?_; clear hR; intro blk w hR) | (refine' aCq hR ?_) | (refine' aDq hR ?_) | (refine' aEq hR ?_) | (refine' aFq hR ?_; clear hR; intro w hR) | (refine' aGq hR ?_; clear hR; intro w hR) | (go_at_call 232; refine (m1 _).mono ?_; rintro e w ⟨rfl, hb⟩; replace hR := hR.call hb; clear hb) | (go_at_call 229; refine (d1 _).mono ?_; rintro e w ⟨rfl, hb⟩; replace hR := hR.call hb; clear hb) | (go_at_call 232; refine (m2 _).mono ?_; rintro e w ⟨rfl, hb⟩; replace hR := hR.call hb; clear hb) | (go_at_call 229; refine (d2 _).mono ?_; rintro e w ⟨rfl, hb⟩; replace hR := hR.call hb; clear hb))
   exact hK.out _ _ (xAn rfl rfl rfl) hR
 case he =>
  clear hR
  intro tm w ht hR K
  rw [pR_zero] at ht
  simp only [Int.natCast_zero, Int.zero_sub] at ht
  repeat (first | (obtain ⟨x, tm', e, ht'⟩ := xAg ht; clear ht; subst e; have ht := ht'; clear ht') | (obtain ⟨tm', e, ht'⟩ := xAd ht; clear ht; subst e; have ht := ht'; clear ht'))
  obtain rfl := xAl ht
  clear ht
  go_wp2_with (first | (refine' aAq hR ?_; clear hR; intro blk w hR) | (refine' aBq hR ?_; clear hR; intro blk w hR) | (refine' aCq hR ?_) | (refine' aDq hR ?_) | (refine' aEq hR ?_) | (refine' aFq hR ?_; clear hR; intro w hR) | (refine' aGq hR ?_; clear hR; intro w hR) | fail)
  go_ret
  exact ⟨rfl, hR.below⟩
theorem refExp_long (a n m : Nat) (ok : okE a m) (hn : n < B) (hm : m < B) (hs : ¬ m < 18446744073709551616) (w : World) : Calls Tryz.prog 187 #[num a, num n, num m] w fun e w' =>
  e = .returned (.tuple #[num (powN a n m), .int .i64 0]) ∧ Below w.heap.size w w' := by
 obtain ⟨h1, ha⟩ := ok
 have cm := fun w => xCz a a m (by omega) (by omega) hm w
 rw [decide_eq_true (show okM a a m from ⟨h1, ha, ha⟩)] at cm
 have cw := fun w => xCc m hm w
 rw [decide_eq_false hs] at cw
 obtain ⟨n1, hn1⟩ : ∃ n, n = 1 := ⟨_, rfl⟩
 have o1 : ∀ w, Calls Tryz.prog 131 #[.int .u64 1] w fun e w' => e = .returned (num n1) ∧ Below w.heap.size w w' := fun w => by
  rw [hn1]; exact xCr 1 (by decide) w
 have cb := fun w => xJm n hn w
 have hn1' : blen n ≤ 256 := (xBk _ _).mpr (by rw [B_eq] at hn; exact hn)
 have hn2 := xEp n
 generalize blen n = N at *
 have e0 : pR a n m N = n1 := by rw [pR_top h1 hn2, hn1]
 have kb : (N : Int) ≤ 256 := by omega
 have kN : IntKind.i64.wrap ((N : Int) - 1) = (N : Int) - 1 := by rw [IntKind.wrap_i64]; omega
 replace hn1 := Held.mk hn1
 replace e0 := Held.mk e0
 have hR := Rep.init w
 go_enter Tryz.func187, Tryz.ntmps187
 go_wp2_with (first | (refine' aAq hR ?_; clear hR; intro blk w hR) | (refine' aBq hR ?_; clear hR; intro blk w hR) | (refine' aCq hR ?_) | (refine' aDq hR ?_) | (refine' aEq hR ?_) | (refine' aFq hR ?_; clear hR; intro w hR) | (refine' aGq hR ?_; clear hR; intro w hR) | (go_at_call 222; refine (cb _).mono ?_; rintro e w ⟨rfl, hb⟩; replace hR := hR.call hb; clear hb) | (go_at_call 211; refine (cm _).mono ?_; rintro e w ⟨rfl, hb⟩; replace hR := hR.call hb; clear hb) | (go_at_call 195; refine (cw _).mono ?_; rintro e w ⟨rfl, hb⟩; replace hR := hR.call hb; clear hb) | (go_at_call 131; refine (o1 _).mono ?_; rintro e w ⟨rfl, hb⟩; replace hR := hR.call hb; clear hb))
 clear cm cw o1 cb
 (first | (rename_i b6; change Nat at b6) | (rename_i b6 _; change Nat at b6) | (rename_i b6 _ _; change Nat at b6) | (rename_i b6 _ _ _; change Nat at b6) | (rename_i b6 _ _ _ _; change Nat at b6) | (rename_i b6 _ _ _ _ _; change Nat at b6) | (rename_i b6 _ _ _ _ _ _; change Nat at b6) | (rename_i b6 _ _ _ _ _ _ _; change Nat at b6) | (rename_i b6 _ _ _ _ _ _ _ _; change Nat at b6) | (rename_i b6 _ _ _ _ _ _ _ _ _; change Nat at b6) | (rename_i b6 _ _ _ _ _ _ _ _ _ _; change Nat at b6) | (rename_i b6 _ _ _ _ _ _ _ _ _ _ _; change Nat at b6) | (rename_i b6 _ _ _ _ _ _ _ _ _ _ _ _; change Nat at b6) | (rename_i b6 _ _ _ _ _ _ _ _ _ _ _ _ _; change Nat at b6))
 (first | (rename_i b5; change Nat at b5) | (rename_i b5 _; change Nat at b5) | (rename_i b5 _ _; change Nat at b5) | (rename_i b5 _ _ _; change Nat at b5) | (rename_i b5 _ _ _ _; change Nat at b5) | (rename_i b5 _ _ _ _ _; change Nat at b5) | (rename_i b5 _ _ _ _ _ _; change Nat at b5) | (rename_i b5 _ _ _ _ _ _ _; change Nat at b5) | (rename_i b5 _ _ _ _ _ _ _ _; change Nat at b5) | (rename_i b5 _ _ _ _ _ _ _ _ _; change Nat at b5) | (rename_i b5 _ _ _ _ _ _ _ _ _ _; change Nat at b5) | (rename_i b5 _ _ _ _ _ _ _ _ _ _ _; change Nat at b5) | (rename_i b5 _ _ _ _ _ _ _ _ _ _ _ _; change Nat at b5) | (rename_i b5 _ _ _ _ _ _ _ _ _ _ _ _ _; change Nat at b5))
 (first | (rename_i b4; change Nat at b4) | (rename_i b4 _; change Nat at b4) | (rename_i b4 _ _; change Nat at b4) | (rename_i b4 _ _ _; change Nat at b4) | (rename_i b4 _ _ _ _; change Nat at b4) | (rename_i b4 _ _ _ _ _; change Nat at b4) | (rename_i b4 _ _ _ _ _ _; change Nat at b4) | (rename_i b4 _ _ _ _ _ _ _; change Nat at b4) | (rename_i b4 _ _ _ _ _ _ _ _; change Nat at b4) | (rename_i b4 _ _ _ _ _ _ _ _ _; change Nat at b4) | (rename_i b4 _ _ _ _ _ _ _ _ _ _; change Nat at b4) | (rename_i b4 _ _ _ _ _ _ _ _ _ _ _; change Nat at b4) | (rename_i b4 _ _ _ _ _ _ _ _ _ _ _ _; change Nat at b4) | (rename_i b4 _ _ _ _ _ _ _ _ _ _ _ _ _; change Nat at b4))
 (first | (rename_i b3; change Nat at b3) | (rename_i b3 _; change Nat at b3) | (rename_i b3 _ _; change Nat at b3) | (rename_i b3 _ _ _; change Nat at b3) | (rename_i b3 _ _ _ _; change Nat at b3) | (rename_i b3 _ _ _ _ _; change Nat at b3) | (rename_i b3 _ _ _ _ _ _; change Nat at b3) | (rename_i b3 _ _ _ _ _ _ _; change Nat at b3) | (rename_i b3 _ _ _ _ _ _ _ _; change Nat at b3) | (rename_i b3 _ _ _ _ _ _ _ _ _; change Nat at b3) | (rename_i b3 _ _ _ _ _ _ _ _ _ _; change Nat at b3) | (rename_i b3 _ _ _ _ _ _ _ _ _ _ _; change Nat at b3) | (rename_i b3 _ _ _ _ _ _ _ _ _ _ _ _; change Nat at b3) | (rename_i b3 _ _ _ _ _ _ _ _ _ _ _ _ _; change Nat at b3))
 refine' xBp (false :: false :: false :: false :: false :: false :: false :: false :: false :: false :: false :: false :: false :: false :: false :: false :: false :: false :: false :: false :: false :: false :: false :: false :: false :: false :: false :: false :: false :: true :: true :: true :: true :: true :: true :: true :: true :: true :: true :: true :: true :: true :: true :: true :: true :: false :: []) (fun j l => l.set 9 (.int .i64 ((j : Int) - 1))) (fun j => [(blk, .cells (nl (pR a n m j)).toArray 24), (b6, .cells (nl 0).toArray 24), (b5, .cells (nl m).toArray 24), (b4, .cells (nl n).toArray 24), (b3, .cells (nl a).toArray 24)]) N ?h0 ?hR ?hs ?he
 case hR =>
  show Rep _ _ ((_, .cells (nl (pR a n m N)).toArray _) :: _) _
  rw [e0.out, ← xCx]
  exact hR
 case h0 => exact xAn rfl rfl rfl
 case hs =>
  clear hR
  intro j tm w hj ht hR K hK
  repeat (first | (obtain ⟨x, tm', e, ht'⟩ := xAg ht; clear ht; subst e; have ht := ht'; clear ht') | (obtain ⟨tm', e, ht'⟩ := xAd ht; clear ht; subst e; have ht := ht'; clear ht'))
  obtain rfl := xAl ht
  clear ht
  obtain ⟨T, hT, hbit⟩ := xHj a n m j
  have hP := pR_lt h1 a n (j + 1)
  have lT : T < m := by rw [← hT, xCe]; exact Nat.mod_lt _ (by omega)
  have t1 := fun w => xEl _ _ m hP hP hm w
  rw [hT] at t1
  generalize pR a n m (j + 1) = R at *
  have e1 : ((j + 1 : Nat) : Int) - 1 = (j : Int) := by omega
  rw [e1]
  have cbit := fun w => xEb n (j : Int) hn w
  rw [xDc n j (by omega)] at cbit
  have kj0 : 0 ≤ (j : Int) := by omega
  have kj1 : (j : Int) < 256 := by omega
  clear hj hn1' hn2 kN kb
  rcases hbit with ⟨hb, hS⟩ | ⟨hb, hS⟩
  ·rw [hb] at cbit
   rw [hS] at hK
   clear hb hS hT lT hP
   go_wp2_with (first | (refine' aAq hR ?_; clear hR; intro blk w hR) | (refine' aBq hR ?_; clear hR; intro blk w hR) | (refine' aCq hR ?_) | (refine' aDq hR ?_) | (refine' aEq hR ?_) | (refine' aFq hR ?_; clear hR; intro w hR) | (refine' aGq hR ?_; clear hR; intro w hR) | (go_at_call 213; refine (t1 _).mono ?_; rintro e w ⟨rfl, hb⟩; replace hR := hR.call hb; clear hb) | (go_at_call 197; refine (cbit _).mono ?_; rintro e w ⟨rfl, hb⟩; replace hR := hR.call hb; clear hb))
   exact hK.out _ _ (xAn rfl rfl rfl) hR
  ·rw [hb] at cbit
   have t2 := fun w => xEl T a m lT ha hm w
   rw [hS] at t2
   clear hb hS hT lT hP
   go_wp2_with (first | (refine' aAq hR ?_; clear hR; intro blk w hR) | (refine' aBq hR ?_; clear hR; intro blk w hR) | (refine' aCq hR ?_) | (refine' aDq hR ?_) | (refine' aEq hR ?_) | (refine' aFq hR ?_; clear hR; intro w hR) | (refine' aGq hR ?_; clear hR; intro w hR) | (go_at_call 213; refine (t1 _).mono ?_; rintro e w ⟨rfl, hb⟩; replace hR := hR.call hb; clear hb) | (go_at_call 197; refine (cbit _).mono ?_; rintro e w ⟨rfl, hb⟩; replace hR := hR.call hb; clear hb) | (go_at_call 213; refine (t2 _).mono ?_; rintro e w ⟨rfl, hb⟩; replace hR := hR.call hb; clear hb))
   exact hK.out _ _ (xAn rfl rfl rfl) hR
 case he =>
  clear hR
  intro tm w ht hR K
  simp only [Int.natCast_zero, Int.zero_sub] at ht
  repeat (first | (obtain ⟨x, tm', e, ht'⟩ := xAg ht; clear ht; subst e; have ht := ht'; clear ht') | (obtain ⟨tm', e, ht'⟩ := xAd ht; clear ht; subst e; have ht := ht'; clear ht'))
  obtain rfl := xAl ht
  clear ht
  rw [pR_zero] at hR
  go_wp2_with (first | (refine' aAq hR ?_; clear hR; intro blk w hR) | (refine' aBq hR ?_; clear hR; intro blk w hR) | (refine' aCq hR ?_) | (refine' aDq hR ?_) | (refine' aEq hR ?_) | (refine' aFq hR ?_; clear hR; intro w hR) | (refine' aGq hR ?_; clear hR; intro w hR) | fail)
  (refine' bodyPost_ret (xAu Tryz.results187 rfl (hR.loadAll (P := Tryz.prog) (ty := 24) ?hm ?hn)) rfl ⟨?_, hR.below⟩; (case hm => first | with_reducible assumption | repeat (first | exact .head _ | apply mT)); (case hn => first | rfl | simp))
  rfl
theorem ref04_exp (a n m : Nat) (ha : a < B) (hn : n < B) (hm : m < B) (w : World) : Calls Tryz.prog 187 #[num a, num n, num m] w fun e w' =>
  e = .returned (.tuple #[num (if okE a m then powN a n m else 0), .int .i64 (if okE a m then 0 else 1)]) ∧ Below w.heap.size w w' := by
 by_cases ok : okE a m
 ·rw [if_pos ok, if_pos ok]
  by_cases hs : m < 18446744073709551616
  ·obtain ⟨h1, ha⟩ := ok
   have cm := fun w => xCz a a m (by omega) (by omega) hm w
   rw [decide_eq_true (show okM a a m from ⟨h1, ha, ha⟩)] at cm
   have cw := fun w => xCc m hm w
   rw [decide_eq_true hs] at cw
   have cp := fun w => refWordPow_any a n m ha hn h1 hs w
   have ea : wd a 0 = (a : Int) := by rw [xFa]; unfold w64; omega
   have em : wd m 0 = (m : Int) := by rw [xFa]; unfold w64; omega
   rw [← ea, ← em] at cp
   have o1 := fun w => xCr (powN a n m) (by rw [powN_def]; exact Nat.lt_trans (Nat.mod_lt _ (by omega)) hs) w
   generalize powN a n m = r at *
   clear h1 ha hs ea em
   have hR := Rep.init w
   go_enter Tryz.func187, Tryz.ntmps187
   go_wp2_with (first | (refine' aAq hR ?_; clear hR; intro blk w hR) | (refine' aBq hR ?_; clear hR; intro blk w hR) | (refine' aCq hR ?_) | (refine' aDq hR ?_) | (refine' aEq hR ?_) | (refine' aFq hR ?_; clear hR; intro w hR) | (refine' aGq hR ?_; clear hR; intro w hR) | (go_at_call 211; refine (cm _).mono ?_; rintro e w ⟨rfl, hb⟩; replace hR := hR.call hb; clear hb) | (go_at_call 195; refine (cw _).mono ?_; rintro e w ⟨rfl, hb⟩; replace hR := hR.call hb; clear hb) | (go_at_call 221; refine (cp _).mono ?_; rintro e w ⟨rfl, hb⟩; replace hR := hR.call hb; clear hb) | (go_at_call 131; refine (o1 _).mono ?_; rintro e w ⟨rfl, hb⟩; replace hR := hR.call hb; clear hb))
   (refine' bodyPost_ret (xAu Tryz.results187 rfl (hR.loadAll (P := Tryz.prog) (ty := 24) ?hm ?hn)) rfl ⟨?_, hR.below⟩; (case hm => first | with_reducible assumption | repeat (first | exact .head _ | apply mT)); (case hn => first | rfl | simp))
   rfl
  ·exact refExp_long a n m ok hn hm hs w
 ·rw [if_neg ok, if_neg ok]
  have cm := fun w => xCz a a m ha ha hm w
  rw [decide_eq_false (fun h : okM a a m => ok ⟨h.1, h.2.1⟩)] at cm
  clear ok
  have hR := Rep.init w
  go_enter Tryz.func187, Tryz.ntmps187
  go_wp2_with (first | (refine' aAq hR ?_; clear hR; intro blk w hR) | (refine' aBq hR ?_; clear hR; intro blk w hR) | (refine' aCq hR ?_) | (refine' aDq hR ?_) | (refine' aEq hR ?_) | (refine' aFq hR ?_; clear hR; intro w hR) | (refine' aGq hR ?_; clear hR; intro w hR) | (go_at_call 211; refine (cm _).mono ?_; rintro e w ⟨rfl, hb⟩; replace hR := hR.call hb; clear hb))
  (refine' bodyPost_ret (xAu Tryz.results187 rfl (hR.loadAll (P := Tryz.prog) (ty := 24) ?hm ?hn)) rfl ⟨?_, hR.below⟩; (case hm => first | with_reducible assumption | repeat (first | exact .head _ | apply mT)); (case hn => first | rfl | simp))
  rw [xBn]
  rfl
end
section
attribute [local irreducible] Calls
theorem wd_addbit_at (Q j i : Nat) (hQ : Q % 2 ^ (j + 1) = 0) (hj : j / 64 = i) : IntKind.u64.wrap (wd Q i + IntKind.u64.wrap (1 * 2 ^ (j % 64))) = wd (Q + 1 * 2 ^ j) i := by
 rw [xCv, xCv]
 obtain ⟨t, rfl⟩ := Nat.dvd_of_mod_eq_zero hQ
 have pw : 18446744073709551616 ^ i = 2 ^ (64 * i) := by rw [Nat.pow_mul]
 have e0 : j = 64 * i + j % 64 := by omega
 have l : j % 64 < 64 := Nat.mod_lt _ (by decide)
 generalize j % 64 = e at *
 subst e0
 have hp : 2 ^ (64 * i + e + 1) = 2 ^ (64 * i) * 2 ^ (e + 1) := by rw [Nat.add_assoc, Nat.pow_add]
 have hp2 : 2 ^ (64 * i + e) = 2 ^ (64 * i) * 2 ^ e := by rw [Nat.pow_add]
 have es : 1 * 2 ^ e < 2 ^ (e + 1) := by
  rw [Nat.pow_succ, Nat.mul_comm]
  exact Nat.mul_lt_mul_of_pos_left (by decide) (Nat.two_pow_pos _)
 have el : 2 ^ (e + 1) ∣ 2 ^ 64 := Nat.pow_dvd_pow 2 (by omega)
 have ew : 1 * 2 ^ e < 2 ^ 64 := Nat.lt_of_lt_of_le es (Nat.le_of_dvd (by decide) el)
 have c : IntKind.u64.wrap (1 * (2 : Int) ^ e) = ((1 * 2 ^ e : Nat) : Int) := by
  rw [IntKind.wrap_u64]
  have : (1 * (2 : Int) ^ e) = ((1 * 2 ^ e : Nat) : Int) := by simp
  rw [this]
  omega
 have d1 : 2 ^ (64 * i) * 2 ^ (e + 1) * t / 2 ^ (64 * i) = 2 ^ (e + 1) * t := by rw [Nat.mul_assoc, Nat.mul_div_cancel_left _ (Nat.two_pow_pos _)]
 have d2 : (2 ^ (64 * i) * 2 ^ (e + 1) * t + 1 * (2 ^ (64 * i) * 2 ^ e)) / 2 ^ (64 * i) = 2 ^ (e + 1) * t + 1 * 2 ^ e := by
  rw [show 2 ^ (64 * i) * 2 ^ (e + 1) * t + 1 * (2 ^ (64 * i) * 2 ^ e) = 2 ^ (64 * i) * (2 ^ (e + 1) * t + 1 * 2 ^ e) by grind, Nat.mul_div_cancel_left _ (Nat.two_pow_pos _)]
 rw [pw, hp, hp2, c, d1, d2]
 obtain ⟨g, hg⟩ := el
 have m1 : 2 ^ (e + 1) * t % 18446744073709551616 = 2 ^ (e + 1) * (t % g) := by
  rw [show (18446744073709551616 : Nat) = 2 ^ 64 from rfl, hg, Nat.mul_mod_mul_left]
 have m2 : (2 ^ (e + 1) * t + 1 * 2 ^ e) % 18446744073709551616 = 2 ^ (e + 1) * (t % g) + 1 * 2 ^ e := by
  rw [show (18446744073709551616 : Nat) = 2 ^ 64 from rfl, hg, Nat.mod_mul, Nat.mul_add_div (Nat.two_pow_pos _), Nat.div_eq_of_lt es, Nat.mul_add_mod, Nat.mod_eq_of_lt es, Nat.add_zero]
  exact Nat.add_comm _ _
 have m3 : (2 ^ (e + 1) * t + 1 * 2 ^ e) % 18446744073709551616 < 18446744073709551616 := Nat.mod_lt _ (by decide)
 rw [m1, m2, IntKind.wrap_u64]
 rw [m2] at m3
 generalize 2 ^ (e + 1) * (t % g) = A at *
 generalize 1 * 2 ^ e = D at *
 omega
theorem nl_addbit (Q j : Nat) (hj : j < 256) (hQ : Q % 2 ^ (j + 1) = 0) :
  (nl Q).set (j / 64) (.int .u64 (IntKind.u64.wrap (wd Q (j / 64) + IntKind.u64.wrap (1 * 2 ^ (j % 64))))) = nl (Q + 1 * 2 ^ j) := by
 rw [wd_addbit_at Q j _ hQ rfl]
 have k : ∀ i, j / 64 ≠ i → wd (Q + 1 * 2 ^ j) i = wd Q i := fun i => wd_setbit Q 1 j i (by decide) hQ
 have : j / 64 = 0 ∨ j / 64 = 1 ∨ j / 64 = 2 ∨ j / 64 = 3 := by omega
 rcases this with h | h | h | h <;> rw [h] at k ⊢ <;> unfold nl <;> simp only [kA, kB]
 ·rw [k 1 (by decide), k 2 (by decide), k 3 (by decide)]
 ·rw [k 0 (by decide), k 2 (by decide), k 3 (by decide)]
 ·rw [k 0 (by decide), k 1 (by decide), k 3 (by decide)]
 ·rw [k 0 (by decide), k 1 (by decide), k 2 (by decide)]
theorem refDiv_none (a : Nat) (ha : a < B) (w : World) : Calls Tryz.prog 130 #[num a, num 0] w fun e w' =>
  e = .returned (.tuple #[num 0, num 0, .int .i64 1]) ∧ Below w.heap.size w w' := by
 have z := xDd 0
 have hR := Rep.init w
 go_enter Tryz.func130, Tryz.ntmps130
 go_wp2_with (first | (refine' aAq hR ?_; clear hR; intro blk w hR) | (refine' aBq hR ?_; clear hR; intro blk w hR) | (refine' aCq hR ?_) | (refine' aDq hR ?_) | (refine' aEq hR ?_) | (refine' aFq hR ?_; clear hR; intro w hR) | (refine' aGq hR ?_; clear hR; intro w hR) | fail)
 (refine' bodyPost_ret (xDm Tryz.results130 rfl (hR.loadAll (P := Tryz.prog) (ty := 24) ?hm ?hn) rfl (hR.loadAll (P := Tryz.prog) (ty := 24) ?hm2 ?hn2)) rfl ⟨?_, hR.below⟩; (case hm => first | with_reducible assumption | repeat (first | exact .head _ | apply mT)); (case hn => first | rfl | simp); (case hm2 => first | with_reducible assumption | repeat (first | exact .head _ | apply mT)); (case hn2 => first | rfl | simp))
 rw [xBn]
 rfl
theorem refDiv_short (a b : Nat) (h0 : b ≠ 0) (ha : a < 18446744073709551616) (hb : b < 18446744073709551616) (w : World) : Calls Tryz.prog 130 #[num a, num b] w fun e w' =>
  e = .returned (.tuple #[num (quo0 a b), num (rem0 a b), .int .i64 0]) ∧ Below w.heap.size w w' := by
 have z := xDk (lt_B hb) xEs h0
 have ca := xCc a (lt_B ha)
 have cb := xCc b (lt_B hb)
 rw [decide_eq_true ha] at ca
 rw [decide_eq_true hb] at cb
 have ea : wd a 0 = (a : Int) := by rw [xFa]; unfold w64; omega
 have eb : wd b 0 = (b : Int) := by rw [xFa]; unfold w64; omega
 have cq := xCr (quo0 a b) (by rw [xEm]; exact Nat.lt_of_le_of_lt (Nat.div_le_self _ _) ha)
 have cr := xCr (rem0 a b) (by rw [xEk h0]; exact Nat.lt_trans (Nat.mod_lt _ (by omega)) hb)
 have eq : (a : Int) / (b : Int) = (quo0 a b : Int) := by rw [xEm]; simp
 have er : (a : Int).tmod (b : Int) = (rem0 a b : Int) := by rw [xEk h0, Int.tmod_eq_emod_of_nonneg (by omega)]; simp
 have eb0 : ((b : Int) == 0) = false := by simp [h0]
 have eb1 : ¬ (b : Int) = 0 := by omega
 have ea0 : 0 ≤ (a : Int) := by omega
 have eq0 : 0 ≤ (quo0 a b : Int) := by omega
 have eq1 : (quo0 a b : Int) < 18446744073709551616 := by
  have := Nat.lt_of_le_of_lt (Nat.div_le_self a b) ha
  rw [xEm]; omega
 have eq2 : IntKind.u64.wrap (quo0 a b : Int) = (quo0 a b : Int) := by rw [IntKind.wrap_u64]; omega
 generalize quo0 a b = q at *
 generalize rem0 a b = r at *
 have hR := Rep.init w
 go_enter Tryz.func130, Tryz.ntmps130
 go_wp2_with (first | (refine' aAq hR ?_; clear hR; intro blk w hR) | (refine' aBq hR ?_; clear hR; intro blk w hR) | (refine' aCq hR ?_) | (refine' aDq hR ?_) | (refine' aEq hR ?_) | (refine' aFq hR ?_; clear hR; intro w hR) | (refine' aGq hR ?_; clear hR; intro w hR) | (refine' aXq hR ?_) | (refine' aYq hR ?_) | (go_at_call 195; refine (ca _).mono ?_; rintro e w ⟨rfl, hb⟩; replace hR := hR.call hb; clear hb) | (go_at_call 195; refine (cb _).mono ?_; rintro e w ⟨rfl, hb⟩; replace hR := hR.call hb; clear hb))
 refine xAe hR [0, 0, 0, 0, 0, 0, 0, 0, 0, 0, 0, 0, 2, 2, 2] [] xBo (by kernel_rfl) rfl rfl (fun K hK => ?_)
 clear hR
 repeat ((first | (refine xAy ?_) | (refine' xAk (by decide) rfl (.inl rfl) rfl ?ha ?_) | (refine' xAk (by decide) rfl (.inr rfl) rfl ?ha ?_) | (refine' aHq ?ha ?_) | (refine' aIq ?ha ?_) | (refine' aJq ?ha ?_) | (refine' aKq ?ha ?_) | (refine' aLq ?ha ?_) | ((first | refine' xAc (by decide) rfl rfl rfl rfl (fun w => ?hq) ?ha ?_ | refine' xAs (by decide) rfl rfl rfl rfl (fun w => ?hq) ?ha ?_ | refine' xAi (by decide) rfl rfl rfl (fun w => ?hq) ?ha ?_ | refine' xAb (by decide) rfl rfl rfl (fun w => ?hq) ?ha ?_ | refine' xAh (by decide) rfl rfl rfl (fun w => ?hq) ?ha ?_ | refine' xAq (by decide) rfl rfl rfl rfl (fun w => ?hq) ?ha ?_ | refine' xAr (by decide) rfl rfl rfl rfl rfl rfl (fun w => ?hq) ?ha ?_ | refine' xAo (by decide) rfl rfl (fun w => ?hq) ?ha ?_ | refine' xAj (by decide) rfl rfl rfl (fun w => ?hq) ?ha ?_ | refine' xAp (by decide) rfl rfl rfl (fun w => ?hq) ?ha ?_); (case hq => go_simp; try rfl)) | (refine' xAf (by decide) rfl rfl rfl ?ha ?_) | (refine' xAx (by decide) rfl rfl rfl rfl ?ha ?_) | (refine' xAw (by decide) rfl ?ha ?_) | (refine' xAt rfl rfl rfl (xAv Tryz.func131 (by kernel_rfl) (by kernel_rfl) _) (fun w => cq w) ?ha ?_) | (refine' xAt rfl rfl rfl (xAv Tryz.func131 (by kernel_rfl) (by kernel_rfl) _) (fun w => cr w) ?ha ?_)); try (case ha => simp only [kP, kQ, kA, kB]; try rfl))
 refine xBb (hK _ _ ?_)
 clear hK K
 refine xBe (fun Q hQ => ?_)
 try simp only [List.nil_append, List.cons_append]
 repeat ((first | refine' xAm rfl (.inl rfl) rfl ?hk ?ha ?_ | refine' xAm rfl (.inr rfl) rfl ?hk ?ha ?_ | (refine' aMq ?hk ?ha ?_) | (refine' aNq ?hk ?ha ?_) | (refine' aOq ?hk ?ha ?_) | (refine' xAz rfl (fun w => ?hq) ?hk ?ha ?_; (case hq => go_simp; try rfl))); (case hk => intro p hp; first | exact absurd hp List.not_mem_nil | (obtain rfl := List.mem_singleton.1 hp; repeat (first | exact List.Mem.head _ | apply mT))); (case ha => simp only [kP, kQ, kA, kB]; try rfl))
 refine xBd (fun w hR => hQ _ _ ?_)
 clear hQ Q
 go_wp2_with (first | (refine' aAq hR ?_; clear hR; intro blk w hR) | (refine' aBq hR ?_; clear hR; intro blk w hR) | (refine' aCq hR ?_) | (refine' aDq hR ?_) | (refine' aEq hR ?_) | (refine' aFq hR ?_; clear hR; intro w hR) | (refine' aGq hR ?_; clear hR; intro w hR) | fail)
 (refine' bodyPost_ret (xDm Tryz.results130 rfl (hR.loadAll (P := Tryz.prog) (ty := 24) ?hm ?hn) rfl (hR.loadAll (P := Tryz.prog) (ty := 24) ?hm2 ?hn2)) rfl ⟨?_, hR.below⟩; (case hm => first | with_reducible assumption | repeat (first | exact .head _ | apply mT)); (case hn => first | rfl | simp); (case hm2 => first | with_reducible assumption | repeat (first | exact .head _ | apply mT)); (case hn2 => first | rfl | simp))
 rfl
theorem refDiv_long (a b : Nat) (ha : a < B) (hb : b < B) (h0 : b ≠ 0) (hs : ¬ (a < 18446744073709551616 ∧ b < 18446744073709551616)) (w : World) : Calls Tryz.prog 130 #[num a, num b] w fun e w' =>
  e = .returned (.tuple #[num (quo0 a b), num (rem0 a b), .int .i64 0]) ∧ Below w.heap.size w w' := by
 have z := xDk hb xEs h0
 have ca := xCc a ha
 have cb := xCc b hb
 have a256 : a < 2 ^ 256 := by rw [B_eq] at ha; exact ha
 have hR := Rep.init w
 go_enter Tryz.func130, Tryz.ntmps130
 by_cases hsa : a < 18446744073709551616
 case' pos =>
  have hsb : ¬ b < 18446744073709551616 := fun h => hs ⟨hsa, h⟩
  rw [decide_eq_true hsa] at ca
  rw [decide_eq_false hsb] at cb
  go_wp2_with (first | (refine' aAq hR ?_; clear hR; intro blk w hR) | (refine' aBq hR ?_; clear hR; intro blk w hR) | (refine' aCq hR ?_) | (refine' aDq hR ?_) | (refine' aEq hR ?_) | (refine' aFq hR ?_; clear hR; intro w hR) | (refine' aGq hR ?_; clear hR; intro w hR) | (refine' aXq hR ?_) | (refine' aYq hR ?_) | (go_at_call 195; refine (ca _).mono ?_; rintro e w ⟨rfl, hb⟩; replace hR := hR.call hb; clear hb) | (go_at_call 195; refine (cb _).mono ?_; rintro e w ⟨rfl, hb⟩; replace hR := hR.call hb; clear hb))
 case' neg =>
  rw [decide_eq_false hsa] at ca
  go_wp2_with (first | (refine' aAq hR ?_; clear hR; intro blk w hR) | (refine' aBq hR ?_; clear hR; intro blk w hR) | (refine' aCq hR ?_) | (refine' aDq hR ?_) | (refine' aEq hR ?_) | (refine' aFq hR ?_; clear hR; intro w hR) | (refine' aGq hR ?_; clear hR; intro w hR) | (refine' aXq hR ?_) | (refine' aYq hR ?_) | (go_at_call 195; refine (ca _).mono ?_; rintro e w ⟨rfl, hb⟩; replace hR := hR.call hb; clear hb) | (go_at_call 195; refine (cb _).mono ?_; rintro e w ⟨rfl, hb⟩; replace hR := hR.call hb; clear hb))
 all_goals
  clear z ca cb
  (first | (rename_i bq; change Nat at bq) | (rename_i bq _; change Nat at bq) | (rename_i bq _ _; change Nat at bq) | (rename_i bq _ _ _; change Nat at bq) | (rename_i bq _ _ _ _; change Nat at bq) | (rename_i bq _ _ _ _ _; change Nat at bq) | (rename_i bq _ _ _ _ _ _; change Nat at bq) | (rename_i bq _ _ _ _ _ _ _; change Nat at bq) | (rename_i bq _ _ _ _ _ _ _ _; change Nat at bq) | (rename_i bq _ _ _ _ _ _ _ _ _; change Nat at bq) | (rename_i bq _ _ _ _ _ _ _ _ _ _; change Nat at bq) | (rename_i bq _ _ _ _ _ _ _ _ _ _ _; change Nat at bq) | (rename_i bq _ _ _ _ _ _ _ _ _ _ _ _; change Nat at bq) | (rename_i bq _ _ _ _ _ _ _ _ _ _ _ _ _; change Nat at bq) | (rename_i bq _ _ _ _ _ _ _ _ _ _ _ _ _ _; change Nat at bq) | (rename_i bq _ _ _ _ _ _ _ _ _ _ _ _ _ _ _; change Nat at bq) | (rename_i bq _ _ _ _ _ _ _ _ _ _ _ _ _ _ _ _; change Nat at bq) | (rename_i bq _ _ _ _ _ _ _ _ _ _ _ _ _ _ _ _ _; change Nat at bq) | (rename_i bq _ _ _ _ _ _ _ _ _ _ _ _ _ _ _ _ _ _; change Nat at bq) | (rename_i bq _ _ _ _ _ _ _ _ _ _ _ _ _ _ _ _ _ _ _; change Nat at bq))
  (first | (rename_i c2; change Nat at c2) | (rename_i c2 _; change Nat at c2) | (rename_i c2 _ _; change Nat at c2) | (rename_i c2 _ _ _; change Nat at c2) | (rename_i c2 _ _ _ _; change Nat at c2) | (rename_i c2 _ _ _ _ _; change Nat at c2) | (rename_i c2 _ _ _ _ _ _; change Nat at c2) | (rename_i c2 _ _ _ _ _ _ _; change Nat at c2) | (rename_i c2 _ _ _ _ _ _ _ _; change Nat at c2) | (rename_i c2 _ _ _ _ _ _ _ _ _; change Nat at c2) | (rename_i c2 _ _ _ _ _ _ _ _ _ _; change Nat at c2) | (rename_i c2 _ _ _ _ _ _ _ _ _ _ _; change Nat at c2) | (rename_i c2 _ _ _ _ _ _ _ _ _ _ _ _; change Nat at c2) | (rename_i c2 _ _ _ _ _ _ _ _ _ _ _ _ _; change Nat at c2) | (rename_i c2 _ _ _ _ _ _ _ _ _ _ _ _ _ _; change Nat at c2) | (rename_i c2 _ _ _ _ _ _ _ _ _ _ _ _ _ _ _; change Nat at c2) | (rename_i c2 _ _ _ _ _ _ _ _ _ _ _ _ _ _ _ _; change Nat at c2) | (rename_i c2 _ _ _ _ _ _ _ _ _ _ _ _ _ _ _ _ _; change Nat at c2) | (rename_i c2 _ _ _ _ _ _ _ _ _ _ _ _ _ _ _ _ _ _; change Nat at c2) | (rename_i c2 _ _ _ _ _ _ _ _ _ _ _ _ _ _ _ _ _ _ _; change Nat at c2))
  (first | (rename_i c1; change Nat at c1) | (rename_i c1 _; change Nat at c1) | (rename_i c1 _ _; change Nat at c1) | (rename_i c1 _ _ _; change Nat at c1) | (rename_i c1 _ _ _ _; change Nat at c1) | (rename_i c1 _ _ _ _ _; change Nat at c1) | (rename_i c1 _ _ _ _ _ _; change Nat at c1) | (rename_i c1 _ _ _ _ _ _ _; change Nat at c1) | (rename_i c1 _ _ _ _ _ _ _ _; change Nat at c1) | (rename_i c1 _ _ _ _ _ _ _ _ _; change Nat at c1) | (rename_i c1 _ _ _ _ _ _ _ _ _ _; change Nat at c1) | (rename_i c1 _ _ _ _ _ _ _ _ _ _ _; change Nat at c1) | (rename_i c1 _ _ _ _ _ _ _ _ _ _ _ _; change Nat at c1) | (rename_i c1 _ _ _ _ _ _ _ _ _ _ _ _ _; change Nat at c1) | (rename_i c1 _ _ _ _ _ _ _ _ _ _ _ _ _ _; change Nat at c1) | (rename_i c1 _ _ _ _ _ _ _ _ _ _ _ _ _ _ _; change Nat at c1) | (rename_i c1 _ _ _ _ _ _ _ _ _ _ _ _ _ _ _ _; change Nat at c1) | (rename_i c1 _ _ _ _ _ _ _ _ _ _ _ _ _ _ _ _ _; change Nat at c1) | (rename_i c1 _ _ _ _ _ _ _ _ _ _ _ _ _ _ _ _ _ _; change Nat at c1) | (rename_i c1 _ _ _ _ _ _ _ _ _ _ _ _ _ _ _ _ _ _ _; change Nat at c1))
  (first | (rename_i bb; change Nat at bb) | (rename_i bb _; change Nat at bb) | (rename_i bb _ _; change Nat at bb) | (rename_i bb _ _ _; change Nat at bb) | (rename_i bb _ _ _ _; change Nat at bb) | (rename_i bb _ _ _ _ _; change Nat at bb) | (rename_i bb _ _ _ _ _ _; change Nat at bb) | (rename_i bb _ _ _ _ _ _ _; change Nat at bb) | (rename_i bb _ _ _ _ _ _ _ _; change Nat at bb) | (rename_i bb _ _ _ _ _ _ _ _ _; change Nat at bb) | (rename_i bb _ _ _ _ _ _ _ _ _ _; change Nat at bb) | (rename_i bb _ _ _ _ _ _ _ _ _ _ _; change Nat at bb) | (rename_i bb _ _ _ _ _ _ _ _ _ _ _ _; change Nat at bb) | (rename_i bb _ _ _ _ _ _ _ _ _ _ _ _ _; change Nat at bb) | (rename_i bb _ _ _ _ _ _ _ _ _ _ _ _ _ _; change Nat at bb) | (rename_i bb _ _ _ _ _ _ _ _ _ _ _ _ _ _ _; change Nat at bb) | (rename_i bb _ _ _ _ _ _ _ _ _ _ _ _ _ _ _ _; change Nat at bb) | (rename_i bb _ _ _ _ _ _ _ _ _ _ _ _ _ _ _ _ _; change Nat at bb) | (rename_i bb _ _ _ _ _ _ _ _ _ _ _ _ _ _ _ _ _ _; change Nat at bb) | (rename_i bb _ _ _ _ _ _ _ _ _ _ _ _ _ _ _ _ _ _ _; change Nat at bb))
  (first | (rename_i ba; change Nat at ba) | (rename_i ba _; change Nat at ba) | (rename_i ba _ _; change Nat at ba) | (rename_i ba _ _ _; change Nat at ba) | (rename_i ba _ _ _ _; change Nat at ba) | (rename_i ba _ _ _ _ _; change Nat at ba) | (rename_i ba _ _ _ _ _ _; change Nat at ba) | (rename_i ba _ _ _ _ _ _ _; change Nat at ba) | (rename_i ba _ _ _ _ _ _ _ _; change Nat at ba) | (rename_i ba _ _ _ _ _ _ _ _ _; change Nat at ba) | (rename_i ba _ _ _ _ _ _ _ _ _ _; change Nat at ba) | (rename_i ba _ _ _ _ _ _ _ _ _ _ _; change Nat at ba) | (rename_i ba _ _ _ _ _ _ _ _ _ _ _ _; change Nat at ba) | (rename_i ba _ _ _ _ _ _ _ _ _ _ _ _ _; change Nat at ba) | (rename_i ba _ _ _ _ _ _ _ _ _ _ _ _ _ _; change Nat at ba) | (rename_i ba _ _ _ _ _ _ _ _ _ _ _ _ _ _ _; change Nat at ba) | (rename_i ba _ _ _ _ _ _ _ _ _ _ _ _ _ _ _ _; change Nat at ba) | (rename_i ba _ _ _ _ _ _ _ _ _ _ _ _ _ _ _ _ _; change Nat at ba) | (rename_i ba _ _ _ _ _ _ _ _ _ _ _ _ _ _ _ _ _ _; change Nat at ba) | (rename_i ba _ _ _ _ _ _ _ _ _ _ _ _ _ _ _ _ _ _ _; change Nat at ba))
  refine' xBp (false :: false :: false :: false :: false :: false :: false :: false :: false :: false :: true :: true :: false :: false :: false :: false :: false :: false :: false :: false :: false :: false :: false :: false :: false :: false :: false :: false :: false :: false :: false :: false :: false :: false :: false :: true :: true :: true :: true :: true :: true :: true :: true :: true :: true :: true :: true :: true :: true :: true :: true :: true :: true :: true :: true :: true :: true :: true :: true :: true :: true :: true :: true :: true :: true :: true :: true :: true :: true :: true :: true :: true :: true :: true :: true :: true :: true :: true :: false :: false :: []) (fun j l => l.set 9 (.int .i64 ((j : Int) - 1))) (fun j => [(blk, .cells (nl (rN a b j)).toArray 24), (bq, .cells (nl (qN a b j)).toArray 24), (c2, .cells (nl 0).toArray 24), (c1, .cells (nl 0).toArray 24), (bb, .cells (nl b).toArray 24), (ba, .cells (nl a).toArray 24)]) 256 ?h0 ?hR ?hs ?he
  case hR =>
   show Rep _ _ [(_, .cells (nl (rN a b 256)).toArray _), (_, .cells (nl (qN a b 256)).toArray _), _, _, _, _] _
   rw [rN_top a256, qN_top a256, ← xCx]
   exact hR
  case h0 => exact xAn rfl rfl rfl
  case hs =>
   clear hR
   intro j tm w hj ht hR K hK
   repeat (first | (obtain ⟨x, tm', e, ht'⟩ := xAg ht; clear ht; subst e; have ht := ht'; clear ht') | (obtain ⟨tm', e, ht'⟩ := xAd ht; clear ht; subst e; have ht := ht'; clear ht'))
   obtain rfl := xAl ht
   clear ht
   obtain ⟨bit, S, hbit, hS, ebit, hRb, er, eS, hQ, eq⟩ := div_round a b j h0
   have cbit := fun w => xEb a (j : Int) ha w
   rw [xDc a j (by omega), ebit] at cbit
   have hx := nl_bit_add (rN a b (j + 1)) bit hbit
   obtain ⟨X, c, hX, hcc, hXB, hc⟩ := xJo (rN a b (j + 1)) bit b hRb hb hbit
   rw [hX] at hx
   have cad := ra_lit (s := rN a b (j + 1) + rN a b (j + 1)) (by omega : rN a b (j + 1) < B) (by omega) rfl hcc
   have hset := nl_addbit (qN a b (j + 1)) j (by omega) hQ
   rw [er, eS] at hc
   have cc := rc_lit hXB hb rfl
   have e1 : ((j + 1 : Nat) : Int) - 1 = (j : Int) := by omega
   rw [e1]
   clear ebit er eS hQ hX hcc hbit e1
   generalize rN a b (j + 1) = R at *
   generalize qN a b (j + 1) = Q at *
   generalize R + R = s at *
   have hset0 : (nl s).set 0 (.int .u64 (IntKind.u64.wrap (wd s 0 + (bit : Int)))) = nl X := by rw [← hx]; rfl
   clear hx hRb
   have hv := nl_at Q (j / 64) (by omega)
   have l0 := xDq Q (j / 64)
   have l1 := xEc Q (j / 64)
   obtain ⟨x, hx⟩ : ∃ x, j / 64 = x := ⟨_, rfl⟩
   obtain ⟨y, hy⟩ : ∃ y, j % 64 = y := ⟨_, rfl⟩
   rw [hx, hy] at hset
   rw [hx] at hv l0 l1
   have e1 : (j : Int) / 64 = (x : Int) := by omega
   have e2 : IntKind.i64.wrap (x : Int) = (x : Int) := by rw [IntKind.wrap_i64]; omega
   have e3 : (j : Int).tmod 64 = (y : Int) := by rw [Int.tmod_eq_emod_of_nonneg (by omega)]; omega
   have e4 : (j : Int) % 64 = (y : Int) := by omega
   have e5 : IntKind.i64.wrap (y : Int) = (y : Int) := by rw [IntKind.wrap_i64]; omega
   have e6 : (x : Int) < 4 := by omega
   have e7 : (y : Int) < 64 := by omega
   have e8 : 0 ≤ (x : Int) := by omega
   have e9 : 0 ≤ (y : Int) := by omega
   have e10 : x < 4 := by omega
   have kj0 : 0 ≤ (j : Int) := by omega
   have kj1 : (j : Int) < 256 := by omega
   have s0 := xDq s 0
   have s1 := xEc s 0
   clear hx hy hj a256
   rcases hc with ⟨rfl, d2, rfl⟩ | ⟨rfl, cg, d2, rfl⟩ | ⟨rfl, cg, d2, rfl⟩
   rotate_left 2
   ·rw [Nat.zero_mul, Nat.add_zero] at eq
    have d3 : nl X = nl (rN a b j) := by simpa [num] using d2
    rw [← d3, ← eq] at hK
    generalize cmpN X b = t at *
    clear d2 d3 eq hS hset
    go_wp2_with (first | (refine' aAq hR ?_; clear hR; intro blk w hR) | (refine' aBq hR ?_; clear hR; intro blk w hR) | (refine' aCq hR ?_) | (refine' aDq hR ?_) | (refine' aEq hR ?_) | (refine' aFq hR ?_; clear hR; intro w hR) | (refine' aGq hR ?_; clear hR; intro w hR) | (go_at_call 196; refine (cad _).mono ?_; rintro e w ⟨rfl, hb⟩; replace hR := hR.call hb; clear hb))
    refine xAe hR [0, 0, 0, 0, 0, 0, 0, 2] [] xBo (by kernel_rfl) rfl rfl (fun K hK => ?_)
    clear hR
    repeat ((first | (refine xAy ?_) | (refine' xAk (by decide) rfl (.inl rfl) rfl ?ha ?_) | (refine' xAk (by decide) rfl (.inr rfl) rfl ?ha ?_) | (refine' aHq ?ha ?_) | (refine' aIq ?ha ?_) | (refine' aJq ?ha ?_) | (refine' aKq ?ha ?_) | (refine' aLq ?ha ?_) | ((first | refine' xAc (by decide) rfl rfl rfl rfl (fun w => ?hq) ?ha ?_ | refine' xAs (by decide) rfl rfl rfl rfl (fun w => ?hq) ?ha ?_ | refine' xAi (by decide) rfl rfl rfl (fun w => ?hq) ?ha ?_ | refine' xAb (by decide) rfl rfl rfl (fun w => ?hq) ?ha ?_ | refine' xAh (by decide) rfl rfl rfl (fun w => ?hq) ?ha ?_ | refine' xAq (by decide) rfl rfl rfl rfl (fun w => ?hq) ?ha ?_ | refine' xAr (by decide) rfl rfl rfl rfl rfl rfl (fun w => ?hq) ?ha ?_ | refine' xAo (by decide) rfl rfl (fun w => ?hq) ?ha ?_ | refine' xAj (by decide) rfl rfl rfl (fun w => ?hq) ?ha ?_ | refine' xAp (by decide) rfl rfl rfl (fun w => ?hq) ?ha ?_); (case hq => go_simp; try rfl)) | (refine' xAf (by decide) rfl rfl rfl ?ha ?_) | (refine' xAx (by decide) rfl rfl rfl rfl ?ha ?_) | (refine' xAw (by decide) rfl ?ha ?_) | (refine' xAt rfl rfl rfl (xAv Tryz.func197 (by kernel_rfl) (by kernel_rfl) _) (fun w => cbit w) ?ha ?_)); try (case ha => simp only [kP, kQ, kA, kB]; try rfl))
    refine xBb (hK _ _ ?_)
    clear hK K
    refine xBe (fun Q hQ => ?_)
    try simp only [List.nil_append, List.cons_append]
    repeat ((first | refine' xAm rfl (.inl rfl) rfl ?hk ?ha ?_ | refine' xAm rfl (.inr rfl) rfl ?hk ?ha ?_ | (refine' aMq ?hk ?ha ?_) | (refine' aNq ?hk ?ha ?_) | (refine' aOq ?hk ?ha ?_) | (refine' xAz rfl (fun w => ?hq) ?hk ?ha ?_; (case hq => go_simp; try rfl))); (case hk => intro p hp; first | exact absurd hp List.not_mem_nil | (obtain rfl := List.mem_singleton.1 hp; repeat (first | exact List.Mem.head _ | apply mT))); (case ha => simp only [kP, kQ, kA, kB]; try rfl))
    refine xBd (fun w hR => hQ _ _ ?_)
    clear hQ Q
    go_wp2_with (first | (refine' aAq hR ?_; clear hR; intro blk w hR) | (refine' aBq hR ?_; clear hR; intro blk w hR) | (refine' aCq hR ?_) | (refine' aDq hR ?_) | (refine' aEq hR ?_) | (refine' aFq hR ?_; clear hR; intro w hR) | (refine' aGq hR ?_; clear hR; intro w hR) | (refine' aXq hR ?_) | (refine' aYq hR ?_) | (go_at_call 185; refine (cc _).mono ?_; rintro e w ⟨rfl, hb⟩; replace hR := hR.call hb; clear hb))
    exact hK.out _ _ (xAn rfl rfl rfl) hR.tail
   all_goals
    have cs := rs_lit hXB hb d2
    rw [eq, Int.one_mul] at hset
    generalize cmpN X b = t at *
    generalize bor (X : Int) (b : Int) = l at *
    clear d2 eq hS
    go_wp2_with (first | (refine' aAq hR ?_; clear hR; intro blk w hR) | (refine' aBq hR ?_; clear hR; intro blk w hR) | (refine' aCq hR ?_) | (refine' aDq hR ?_) | (refine' aEq hR ?_) | (refine' aFq hR ?_; clear hR; intro w hR) | (refine' aGq hR ?_; clear hR; intro w hR) | (go_at_call 196; refine (cad _).mono ?_; rintro e w ⟨rfl, hb⟩; replace hR := hR.call hb; clear hb))
    refine xAe hR [0, 0, 0, 0, 0, 0, 0, 2] [] xBo (by kernel_rfl) rfl rfl (fun K hK => ?_)
    clear hR
    repeat ((first | (refine xAy ?_) | (refine' xAk (by decide) rfl (.inl rfl) rfl ?ha ?_) | (refine' xAk (by decide) rfl (.inr rfl) rfl ?ha ?_) | (refine' aHq ?ha ?_) | (refine' aIq ?ha ?_) | (refine' aJq ?ha ?_) | (refine' aKq ?ha ?_) | (refine' aLq ?ha ?_) | ((first | refine' xAc (by decide) rfl rfl rfl rfl (fun w => ?hq) ?ha ?_ | refine' xAs (by decide) rfl rfl rfl rfl (fun w => ?hq) ?ha ?_ | refine' xAi (by decide) rfl rfl rfl (fun w => ?hq) ?ha ?_ | refine' xAb (by decide) rfl rfl rfl (fun w => ?hq) ?ha ?_ | refine' xAh (by decide) rfl rfl rfl (fun w => ?hq) ?ha ?_ | refine' xAq (by decide) rfl rfl rfl rfl (fun w => ?hq) ?ha ?_ | refine' xAr (by decide) rfl rfl rfl rfl rfl rfl (fun w => ?hq) ?ha ?_ | refine' xAo (by decide) rfl rfl (fun w => ?hq) ?ha ?_ | refine' xAj (by decide) rfl rfl rfl (fun w => ?hq) ?ha ?_ | refine' xAp (by decide) rfl rfl rfl (fun w => ?hq) ?ha ?_); (case hq => go_simp; try rfl)) | (refine' xAf (by decide) rfl rfl rfl ?ha ?_) | (refine' xAx (by decide) rfl rfl rfl rfl ?ha ?_) | (refine' xAw (by decide) rfl ?ha ?_) | (refine' xAt rfl rfl rfl (xAv Tryz.func197 (by kernel_rfl) (by kernel_rfl) _) (fun w => cbit w) ?ha ?_)); try (case ha => simp only [kP, kQ, kA, kB]; try rfl))
    refine xBb (hK _ _ ?_)
    clear hK K
    refine xBe (fun Q hQ => ?_)
    try simp only [List.nil_append, List.cons_append]
    repeat ((first | refine' xAm rfl (.inl rfl) rfl ?hk ?ha ?_ | refine' xAm rfl (.inr rfl) rfl ?hk ?ha ?_ | (refine' aMq ?hk ?ha ?_) | (refine' aNq ?hk ?ha ?_) | (refine' aOq ?hk ?ha ?_) | (refine' xAz rfl (fun w => ?hq) ?hk ?ha ?_; (case hq => go_simp; try rfl))); (case hk => intro p hp; first | exact absurd hp List.not_mem_nil | (obtain rfl := List.mem_singleton.1 hp; repeat (first | exact List.Mem.head _ | apply mT))); (case ha => simp only [kP, kQ, kA, kB]; try rfl))
    refine xBd (fun w hR => hQ _ _ ?_)
    clear hQ Q
    go_wp2_with (first | (refine' aAq hR ?_; clear hR; intro blk w hR) | (refine' aBq hR ?_; clear hR; intro blk w hR) | (refine' aCq hR ?_) | (refine' aDq hR ?_) | (refine' aEq hR ?_) | (refine' aFq hR ?_; clear hR; intro w hR) | (refine' aGq hR ?_; clear hR; intro w hR) | (refine' aXq hR ?_) | (refine' aYq hR ?_) | (go_at_call 132; refine (cs _).mono ?_; rintro e w ⟨rfl, hb⟩; replace hR := hR.call hb; clear hb) | (go_at_call 185; refine (cc _).mono ?_; rintro e w ⟨rfl, hb⟩; replace hR := hR.call hb; clear hb))
    refine xAe hR [0, 0, 0, 0, 0, 0, 0, 0, 0, 0, 0, 2] [] xBo (by kernel_rfl) rfl rfl (fun K hK => ?_)
    clear hR
    repeat ((first | (refine xAy ?_) | (refine' xAk (by decide) rfl (.inl rfl) rfl ?ha ?_) | (refine' xAk (by decide) rfl (.inr rfl) rfl ?ha ?_) | (refine' aHq ?ha ?_) | (refine' aIq ?ha ?_) | (refine' aJq ?ha ?_) | (refine' aKq ?ha ?_) | (refine' aLq ?ha ?_) | ((first | refine' xAc (by decide) rfl rfl rfl rfl (fun w => ?hq) ?ha ?_ | refine' xAs (by decide) rfl rfl rfl rfl (fun w => ?hq) ?ha ?_ | refine' xAi (by decide) rfl rfl rfl (fun w => ?hq) ?ha ?_ | refine' xAb (by decide) rfl rfl rfl (fun w => ?hq) ?ha ?_ | refine' xAh (by decide) rfl rfl rfl (fun w => ?hq) ?ha ?_ | refine' xAq (by decide) rfl rfl rfl rfl (fun w => ?hq) ?ha ?_ | refine' xAr (by decide) rfl rfl rfl rfl rfl rfl (fun w => ?hq) ?ha ?_ | refine' xAo (by decide) rfl rfl (fun w => ?hq) ?ha ?_ | refine' xAj (by decide) rfl rfl rfl (fun w => ?hq) ?ha ?_ | refine' xAp (by decide) rfl rfl rfl (fun w => ?hq) ?ha ?_); (case hq => go_simp; try rfl)) | (refine' xAf (by decide) rfl rfl rfl ?ha ?_) | (refine' xAx (by decide) rfl rfl rfl rfl ?ha ?_) | (refine' xAw (by decide) rfl ?ha ?_) | fail); try (case ha => simp only [kP, kQ, kA, kB]; try rfl))
    refine xBb (hK _ _ ?_)
    clear hK K
    refine xBe (fun Q hQ => ?_)
    try simp only [List.nil_append, List.cons_append]
    repeat ((first | refine' xAm rfl (.inl rfl) rfl ?hk ?ha ?_ | refine' xAm rfl (.inr rfl) rfl ?hk ?ha ?_ | (refine' aMq ?hk ?ha ?_) | (refine' aNq ?hk ?ha ?_) | (refine' aOq ?hk ?ha ?_) | (refine' xAz rfl (fun w => ?hq) ?hk ?ha ?_; (case hq => go_simp; try rfl))); (case hk => intro p hp; first | exact absurd hp List.not_mem_nil | (obtain rfl := List.mem_singleton.1 hp; repeat (first | exact List.Mem.head _ | apply mT))); (case ha => simp only [kP, kQ, kA, kB]; try rfl))
    refine xBd (fun w hR => hQ _ _ ?_)
    clear hQ Q
    go_wp2_with (first | (refine' aAq hR ?_; clear hR; intro blk w hR) | (refine' aBq hR ?_; clear hR; intro blk w hR) | (refine' aCq hR ?_) | (refine' aDq hR ?_) | (refine' aEq hR ?_) | (refine' aFq hR ?_; clear hR; intro w hR) | (refine' aGq hR ?_; clear hR; intro w hR) | fail)
    exact hK.out _ _ (xAn rfl rfl rfl) hR.tail
  case he =>
   clear hR
   intro tm w ht hR K
   simp only [Int.natCast_zero, Int.zero_sub] at ht
   repeat (first | (obtain ⟨x, tm', e, ht'⟩ := xAg ht; clear ht; subst e; have ht := ht'; clear ht') | (obtain ⟨tm', e, ht'⟩ := xAd ht; clear ht; subst e; have ht := ht'; clear ht'))
   obtain rfl := xAl ht
   clear ht
   rw [rN_zero h0, qN_zero] at hR
   go_wp2_with (first | (refine' aAq hR ?_; clear hR; intro blk w hR) | (refine' aBq hR ?_; clear hR; intro blk w hR) | (refine' aCq hR ?_) | (refine' aDq hR ?_) | (refine' aEq hR ?_) | (refine' aFq hR ?_; clear hR; intro w hR) | (refine' aGq hR ?_; clear hR; intro w hR) | fail)
   refine xAe hR [0, 1, 2, 2, 2] [0] xBo (by kernel_rfl) rfl rfl (fun K hK => ?_)
   clear hR
   repeat ((first | (refine xAy ?_) | (refine' xAk (by decide) rfl (.inl rfl) rfl ?ha ?_) | (refine' xAk (by decide) rfl (.inr rfl) rfl ?ha ?_) | (refine' aHq ?ha ?_) | (refine' aIq ?ha ?_) | (refine' aJq ?ha ?_) | (refine' aKq ?ha ?_) | (refine' aLq ?ha ?_) | ((first | refine' xAc (by decide) rfl rfl rfl rfl (fun w => ?hq) ?ha ?_ | refine' xAs (by decide) rfl rfl rfl rfl (fun w => ?hq) ?ha ?_ | refine' xAi (by decide) rfl rfl rfl (fun w => ?hq) ?ha ?_ | refine' xAb (by decide) rfl rfl rfl (fun w => ?hq) ?ha ?_ | refine' xAh (by decide) rfl rfl rfl (fun w => ?hq) ?ha ?_ | refine' xAq (by decide) rfl rfl rfl rfl (fun w => ?hq) ?ha ?_ | refine' xAr (by decide) rfl rfl rfl rfl rfl rfl (fun w => ?hq) ?ha ?_ | refine' xAo (by decide) rfl rfl (fun w => ?hq) ?ha ?_ | refine' xAj (by decide) rfl rfl rfl (fun w => ?hq) ?ha ?_ | refine' xAp (by decide) rfl rfl rfl (fun w => ?hq) ?ha ?_); (case hq => go_simp; try rfl)) | (refine' xAf (by decide) rfl rfl rfl ?ha ?_) | (refine' xAx (by decide) rfl rfl rfl rfl ?ha ?_) | (refine' xAw (by decide) rfl ?ha ?_) | fail); try (case ha => simp only [kP, kQ, kA, kB]; try rfl))
   refine xBb (hK _ _ ?_)
   clear hK K
   refine xBe (fun Q hQ => ?_)
   try simp only [List.nil_append, List.cons_append]
   repeat ((first | refine' xAm rfl (.inl rfl) rfl ?hk ?ha ?_ | refine' xAm rfl (.inr rfl) rfl ?hk ?ha ?_ | (refine' aMq ?hk ?ha ?_) | (refine' aNq ?hk ?ha ?_) | (refine' aOq ?hk ?ha ?_) | (refine' xAz rfl (fun w => ?hq) ?hk ?ha ?_; (case hq => go_simp; try rfl))); (case hk => intro p hp; first | exact absurd hp List.not_mem_nil | (obtain rfl := List.mem_singleton.1 hp; repeat (first | exact List.Mem.head _ | apply mT))); (case ha => simp only [kP, kQ, kA, kB]; try rfl))
   refine xBd (fun w hR => hQ _ _ ?_)
   clear hQ Q
   go_wp2_with (first | (refine' aAq hR ?_; clear hR; intro blk w hR) | (refine' aBq hR ?_; clear hR; intro blk w hR) | (refine' aCq hR ?_) | (refine' aDq hR ?_) | (refine' aEq hR ?_) | (refine' aFq hR ?_; clear hR; intro w hR) | (refine' aGq hR ?_; clear hR; intro w hR) | fail)
   (refine' bodyPost_ret (xDm Tryz.results130 rfl (hR.loadAll (P := Tryz.prog) (ty := 24) ?hm ?hn) rfl (hR.loadAll (P := Tryz.prog) (ty := 24) ?hm2 ?hn2)) rfl ⟨?_, hR.below⟩; (case hm => first | with_reducible assumption | repeat (first | exact .head _ | apply mT)); (case hn => first | rfl | simp); (case hm2 => first | with_reducible assumption | repeat (first | exact .head _ | apply mT)); (case hn2 => first | rfl | simp))
   rfl
theorem refDiv_any (a b : Nat) (ha : a < B) (hb : b < B) (w : World) : Calls Tryz.prog 130 #[num a, num b] w fun e w' =>
  e = .returned (.tuple #[num (quo0 a b), num (rem0 a b), .int .i64 (if b = 0 then 1 else 0)]) ∧ Below w.heap.size w w' := by
 by_cases h : b = 0
 ·subst h
  rw [if_pos rfl, rem0_def, xEm, if_pos rfl, Nat.div_zero]
  exact refDiv_none a ha w
 ·rw [if_neg h]
  by_cases hs : a < 18446744073709551616 ∧ b < 18446744073709551616
  ·exact refDiv_short a b h hs.1 hs.2 w
  ·exact refDiv_long a b ha hb h hs w
theorem xHc (a b : Nat) (ha : a < B) (hb : b < B) (w : World) : Calls Tryz.prog 212 #[num a, num b] w fun e w' =>
  e = .returned (num (gcdN a b)) ∧ Below w.heap.size w w' := by
 obtain ⟨n, X, Y, hX, hY, hY0, hg, hlt, hst⟩ := euclid b a ha hb
 rw [← hg, ← hX, ← hY]
 clear hg hX hY
 have hR := Rep.init w
 go_enter Tryz.func212, Tryz.ntmps212
 go_wp2_with (first | (refine' aAq hR ?_; clear hR; intro blk w hR) | (refine' aBq hR ?_; clear hR; intro blk w hR) | (refine' aCq hR ?_) | (refine' aDq hR ?_) | (refine' aEq hR ?_) | (refine' aFq hR ?_; clear hR; intro w hR) | (refine' aGq hR ?_; clear hR; intro w hR) | fail)
 (first | (rename_i b2; change Nat at b2) | (rename_i b2 _; change Nat at b2) | (rename_i b2 _ _; change Nat at b2) | (rename_i b2 _ _ _; change Nat at b2) | (rename_i b2 _ _ _ _; change Nat at b2) | (rename_i b2 _ _ _ _ _; change Nat at b2) | (rename_i b2 _ _ _ _ _ _; change Nat at b2) | (rename_i b2 _ _ _ _ _ _ _; change Nat at b2) | (rename_i b2 _ _ _ _ _ _ _ _; change Nat at b2) | (rename_i b2 _ _ _ _ _ _ _ _ _; change Nat at b2) | (rename_i b2 _ _ _ _ _ _ _ _ _ _; change Nat at b2) | (rename_i b2 _ _ _ _ _ _ _ _ _ _ _; change Nat at b2) | (rename_i b2 _ _ _ _ _ _ _ _ _ _ _ _; change Nat at b2) | (rename_i b2 _ _ _ _ _ _ _ _ _ _ _ _ _; change Nat at b2) | (rename_i b2 _ _ _ _ _ _ _ _ _ _ _ _ _ _; change Nat at b2) | (rename_i b2 _ _ _ _ _ _ _ _ _ _ _ _ _ _ _; change Nat at b2) | (rename_i b2 _ _ _ _ _ _ _ _ _ _ _ _ _ _ _ _; change Nat at b2) | (rename_i b2 _ _ _ _ _ _ _ _ _ _ _ _ _ _ _ _ _; change Nat at b2) | (rename_i b2 _ _ _ _ _ _ _ _ _ _ _ _ _ _ _ _ _ _; change Nat at b2) | (rename_i b2 _ _ _ _ _ _ _ _ _ _ _ _ _ _ _ _ _ _ _; change Nat at b2))
 (first | (rename_i b1; change Nat at b1) | (rename_i b1 _; change Nat at b1) | (rename_i b1 _ _; change Nat at b1) | (rename_i b1 _ _ _; change Nat at b1) | (rename_i b1 _ _ _ _; change Nat at b1) | (rename_i b1 _ _ _ _ _; change Nat at b1) | (rename_i b1 _ _ _ _ _ _; change Nat at b1) | (rename_i b1 _ _ _ _ _ _ _; change Nat at b1) | (rename_i b1 _ _ _ _ _ _ _ _; change Nat at b1) | (rename_i b1 _ _ _ _ _ _ _ _ _; change Nat at b1) | (rename_i b1 _ _ _ _ _ _ _ _ _ _; change Nat at b1) | (rename_i b1 _ _ _ _ _ _ _ _ _ _ _; change Nat at b1) | (rename_i b1 _ _ _ _ _ _ _ _ _ _ _ _; change Nat at b1) | (rename_i b1 _ _ _ _ _ _ _ _ _ _ _ _ _; change Nat at b1) | (rename_i b1 _ _ _ _ _ _ _ _ _ _ _ _ _ _; change Nat at b1) | (rename_i b1 _ _ _ _ _ _ _ _ _ _ _ _ _ _ _; change Nat at b1) | (rename_i b1 _ _ _ _ _ _ _ _ _ _ _ _ _ _ _ _; change Nat at b1) | (rename_i b1 _ _ _ _ _ _ _ _ _ _ _ _ _ _ _ _ _; change Nat at b1) | (rename_i b1 _ _ _ _ _ _ _ _ _ _ _ _ _ _ _ _ _ _; change Nat at b1) | (rename_i b1 _ _ _ _ _ _ _ _ _ _ _ _ _ _ _ _ _ _ _; change Nat at b1))
 refine' xBp (false :: false :: false :: false :: false :: true :: true :: true :: true :: true :: true :: true :: true :: true :: true :: true :: true :: true :: true :: true :: false :: []) (fun j l => l) (fun j => [(blk, .cells [.int .u64 0, .int .u64 0, .int .u64 0, .int .u64 0].toArray 24), (b2, .cells (nl (Y j)).toArray 24), (b1, .cells (nl (X j)).toArray 24)]) n ?h0 ?hR ?hs ?he
 case hR =>
  exact hR
 case h0 =>
  exact xAn rfl rfl rfl
 case hs =>
  clear hR
  intro j tm w hj ht hR K hK
  repeat (first | (obtain ⟨x, tm', e, ht'⟩ := xAg ht; clear ht; subst e; have ht := ht'; clear ht') | (obtain ⟨tm', e, ht'⟩ := xAd ht; clear ht; subst e; have ht := ht'; clear ht'))
  obtain rfl := xAl ht
  clear ht
  obtain ⟨y0, e1, e2⟩ := hst j hj
  obtain ⟨l1, l2⟩ := hlt (j + 1) (by omega)
  have z := xDk l2 xEs y0
  have cd := fun w => refDiv_any _ _ l1 l2 w
  rw [← e2] at cd
  rw [e1] at hK
  clear hst hlt e2 e1
  generalize X (j + 1) = U at *
  generalize Y (j + 1) = V at *
  go_wp2_with (first | (refine' aAq hR ?_; clear hR; intro blk w hR) | (refine' aBq hR ?_; clear hR; intro blk w hR) | (refine' aCq hR ?_) | (refine' aDq hR ?_) | (refine' aEq hR ?_) | (refine' aFq hR ?_; clear hR; intro w hR) | (refine' aGq hR ?_; clear hR; intro w hR) | (go_at_call 130; refine (cd _).mono ?_; rintro e w ⟨rfl, hb⟩; replace hR := hR.call hb; clear hb))
  exact hK.out _ _ (xAn rfl rfl rfl) hR.tail.tail
 case he =>
  clear hR hst hlt
  intro tm w ht hR K
  repeat (first | (obtain ⟨x, tm', e, ht'⟩ := xAg ht; clear ht; subst e; have ht := ht'; clear ht') | (obtain ⟨tm', e, ht'⟩ := xAd ht; clear ht; subst e; have ht := ht'; clear ht'))
  obtain rfl := xAl ht
  clear ht
  rw [hY0] at hR
  have z := xDd 0
  go_wp2_with (first | (refine' aAq hR ?_; clear hR; intro blk w hR) | (refine' aBq hR ?_; clear hR; intro blk w hR) | (refine' aCq hR ?_) | (refine' aDq hR ?_) | (refine' aEq hR ?_) | (refine' aFq hR ?_; clear hR; intro w hR) | (refine' aGq hR ?_; clear hR; intro w hR) | fail)
  try rw [Exit.noGoto_ret]
  (refine' bodyPost_ret (xBc Tryz.results212 rfl (hR.loadAll (P := Tryz.prog) (ty := 24) ?hm ?hn)) rfl ⟨?_, hR.below⟩; (case hm => first | with_reducible assumption | repeat (first | exact .head _ | apply mT)); (case hn => first | rfl | simp))
  rfl
end
section
attribute [local irreducible] Calls
theorem rd_lit {a b q r : Nat} {e : Int} (ha : a < B) (hb : b < B) (hq : quo0 a b = q) (hr : rem0 a b = r) (he : (if b = 0 then (1 : Int) else 0) = e) (w : World) : Calls Tryz.prog 130 #[num a, num b] w fun e' w' =>
  e' = .returned (.tuple #[num q, num r, .int .i64 e]) ∧ Below w.heap.size w w' := by
 have := refDiv_any a b ha hb w
 rwa [hq, hr, he] at this
theorem refInv_yes (a m : Nat) (h1 : 1 < m) (ha : a < m) (hm : m < B) (hg : Nat.gcd a m = 1) (w : World) : Calls Tryz.prog 179 #[num a, num m] w fun e w' =>
  e = .returned (.tuple #[num (invM a m), .int .i64 0]) ∧ Below w.heap.size w w' := by
 have cm := fun w => xCz a a m (by omega) (by omega) hm w
 rw [decide_eq_true (show okM a a m from ⟨h1, ha, ha⟩)] at cm
 obtain ⟨n1, hn1⟩ : ∃ n, n = 1 := ⟨_, rfl⟩
 have L1 : n1 < B := lt_B (by omega)
 have o1 : ∀ w, Calls Tryz.prog 131 #[.int .u64 1] w fun e w' => e = .returned (num n1) ∧ Below w.heap.size w w' := fun w => by
  rw [hn1]; exact xCr 1 (by decide) w
 have cg := fun w => xHc a m (by omega) hm w
 rw [xGn, hg, ← hn1] at cg
 rw [invM_yes hg]
 have a0 : 1 ≤ a := by
  rcases Nat.eq_zero_or_pos a with h | h
  ·rw [h, Nat.gcd_zero_left] at hg; omega
  ·exact h
 obtain ⟨N, R, S, X, Y, k1, k2, k3, k4, k5, k6, k7, k8⟩ := xIf a m h1 a m 0 1 (by rw [Nat.gcd_comm, hg]) a0 ha (Nat.le_refl _) (by omega) h1 (by rw [Nat.zero_mul, Nat.zero_mod, Nat.mod_self]) (by rw [Nat.one_mul])
 have e9 := invN_is (k7 0 (Nat.zero_le _)).2.2.2 k6
 rw [e9]
 have hR := Rep.init w
 rw [← hn1] at k4 k5
 have es := xDd n1
 replace hn1 := Held.mk hn1
 replace k1 := Held.mk k1
 replace k2 := Held.mk k2
 replace k3 := Held.mk k3
 replace k4 := Held.mk k4
 replace k5 := Held.mk k5
 replace k7 := Held.mk k7
 replace k8 := Held.mk k8
 clear k6 e9 hg a0
 go_enter Tryz.func179, Tryz.ntmps179
 go_wp2_with (first | (refine' aAq hR ?_; clear hR; intro blk w hR) | (refine' aBq hR ?_; clear hR; intro blk w hR) | (refine' aCq hR ?_) | (refine' aDq hR ?_) | (refine' aEq hR ?_) | (refine' aFq hR ?_; clear hR; intro w hR) | (refine' aGq hR ?_; clear hR; intro w hR) | (go_at_call 211; refine (cm _).mono ?_; rintro e w ⟨rfl, hb⟩; replace hR := hR.call hb; clear hb) | (go_at_call 212; refine (cg _).mono ?_; rintro e w ⟨rfl, hb⟩; replace hR := hR.call hb; clear hb) | (go_at_call 131; refine (o1 _).mono ?_; rintro e w ⟨rfl, hb⟩; replace hR := hR.call hb; clear hb))
 clear cm cg
 (first | (rename_i b8; change Nat at b8) | (rename_i b8 _; change Nat at b8) | (rename_i b8 _ _; change Nat at b8) | (rename_i b8 _ _ _; change Nat at b8) | (rename_i b8 _ _ _ _; change Nat at b8) | (rename_i b8 _ _ _ _ _; change Nat at b8) | (rename_i b8 _ _ _ _ _ _; change Nat at b8) | (rename_i b8 _ _ _ _ _ _ _; change Nat at b8) | (rename_i b8 _ _ _ _ _ _ _ _; change Nat at b8) | (rename_i b8 _ _ _ _ _ _ _ _ _; change Nat at b8) | (rename_i b8 _ _ _ _ _ _ _ _ _ _; change Nat at b8) | (rename_i b8 _ _ _ _ _ _ _ _ _ _ _; change Nat at b8) | (rename_i b8 _ _ _ _ _ _ _ _ _ _ _ _; change Nat at b8) | (rename_i b8 _ _ _ _ _ _ _ _ _ _ _ _ _; change Nat at b8) | (rename_i b8 _ _ _ _ _ _ _ _ _ _ _ _ _ _; change Nat at b8) | (rename_i b8 _ _ _ _ _ _ _ _ _ _ _ _ _ _ _; change Nat at b8) | (rename_i b8 _ _ _ _ _ _ _ _ _ _ _ _ _ _ _ _; change Nat at b8) | (rename_i b8 _ _ _ _ _ _ _ _ _ _ _ _ _ _ _ _ _; change Nat at b8) | (rename_i b8 _ _ _ _ _ _ _ _ _ _ _ _ _ _ _ _ _ _; change Nat at b8) | (rename_i b8 _ _ _ _ _ _ _ _ _ _ _ _ _ _ _ _ _ _ _; change Nat at b8) | (rename_i b8 _ _ _ _ _ _ _ _ _ _ _ _ _ _ _ _ _ _ _ _; change Nat at b8) | (rename_i b8 _ _ _ _ _ _ _ _ _ _ _ _ _ _ _ _ _ _ _ _ _; change Nat at b8) | (rename_i b8 _ _ _ _ _ _ _ _ _ _ _ _ _ _ _ _ _ _ _ _ _ _; change Nat at b8) | (rename_i b8 _ _ _ _ _ _ _ _ _ _ _ _ _ _ _ _ _ _ _ _ _ _ _; change Nat at b8) | (rename_i b8 _ _ _ _ _ _ _ _ _ _ _ _ _ _ _ _ _ _ _ _ _ _ _ _; change Nat at b8) | (rename_i b8 _ _ _ _ _ _ _ _ _ _ _ _ _ _ _ _ _ _ _ _ _ _ _ _ _; change Nat at b8))
 (first | (rename_i b7; change Nat at b7) | (rename_i b7 _; change Nat at b7) | (rename_i b7 _ _; change Nat at b7) | (rename_i b7 _ _ _; change Nat at b7) | (rename_i b7 _ _ _ _; change Nat at b7) | (rename_i b7 _ _ _ _ _; change Nat at b7) | (rename_i b7 _ _ _ _ _ _; change Nat at b7) | (rename_i b7 _ _ _ _ _ _ _; change Nat at b7) | (rename_i b7 _ _ _ _ _ _ _ _; change Nat at b7) | (rename_i b7 _ _ _ _ _ _ _ _ _; change Nat at b7) | (rename_i b7 _ _ _ _ _ _ _ _ _ _; change Nat at b7) | (rename_i b7 _ _ _ _ _ _ _ _ _ _ _; change Nat at b7) | (rename_i b7 _ _ _ _ _ _ _ _ _ _ _ _; change Nat at b7) | (rename_i b7 _ _ _ _ _ _ _ _ _ _ _ _ _; change Nat at b7) | (rename_i b7 _ _ _ _ _ _ _ _ _ _ _ _ _ _; change Nat at b7) | (rename_i b7 _ _ _ _ _ _ _ _ _ _ _ _ _ _ _; change Nat at b7) | (rename_i b7 _ _ _ _ _ _ _ _ _ _ _ _ _ _ _ _; change Nat at b7) | (rename_i b7 _ _ _ _ _ _ _ _ _ _ _ _ _ _ _ _ _; change Nat at b7) | (rename_i b7 _ _ _ _ _ _ _ _ _ _ _ _ _ _ _ _ _ _; change Nat at b7) | (rename_i b7 _ _ _ _ _ _ _ _ _ _ _ _ _ _ _ _ _ _ _; change Nat at b7) | (rename_i b7 _ _ _ _ _ _ _ _ _ _ _ _ _ _ _ _ _ _ _ _; change Nat at b7) | (rename_i b7 _ _ _ _ _ _ _ _ _ _ _ _ _ _ _ _ _ _ _ _ _; change Nat at b7) | (rename_i b7 _ _ _ _ _ _ _ _ _ _ _ _ _ _ _ _ _ _ _ _ _ _; change Nat at b7) | (rename_i b7 _ _ _ _ _ _ _ _ _ _ _ _ _ _ _ _ _ _ _ _ _ _ _; change Nat at b7) | (rename_i b7 _ _ _ _ _ _ _ _ _ _ _ _ _ _ _ _ _ _ _ _ _ _ _ _; change Nat at b7) | (rename_i b7 _ _ _ _ _ _ _ _ _ _ _ _ _ _ _ _ _ _ _ _ _ _ _ _ _; change Nat at b7))
 (first | (rename_i b6; change Nat at b6) | (rename_i b6 _; change Nat at b6) | (rename_i b6 _ _; change Nat at b6) | (rename_i b6 _ _ _; change Nat at b6) | (rename_i b6 _ _ _ _; change Nat at b6) | (rename_i b6 _ _ _ _ _; change Nat at b6) | (rename_i b6 _ _ _ _ _ _; change Nat at b6) | (rename_i b6 _ _ _ _ _ _ _; change Nat at b6) | (rename_i b6 _ _ _ _ _ _ _ _; change Nat at b6) | (rename_i b6 _ _ _ _ _ _ _ _ _; change Nat at b6) | (rename_i b6 _ _ _ _ _ _ _ _ _ _; change Nat at b6) | (rename_i b6 _ _ _ _ _ _ _ _ _ _ _; change Nat at b6) | (rename_i b6 _ _ _ _ _ _ _ _ _ _ _ _; change Nat at b6) | (rename_i b6 _ _ _ _ _ _ _ _ _ _ _ _ _; change Nat at b6) | (rename_i b6 _ _ _ _ _ _ _ _ _ _ _ _ _ _; change Nat at b6) | (rename_i b6 _ _ _ _ _ _ _ _ _ _ _ _ _ _ _; change Nat at b6) | (rename_i b6 _ _ _ _ _ _ _ _ _ _ _ _ _ _ _ _; change Nat at b6) | (rename_i b6 _ _ _ _ _ _ _ _ _ _ _ _ _ _ _ _ _; change Nat at b6) | (rename_i b6 _ _ _ _ _ _ _ _ _ _ _ _ _ _ _ _ _ _; change Nat at b6) | (rename_i b6 _ _ _ _ _ _ _ _ _ _ _ _ _ _ _ _ _ _ _; change Nat at b6) | (rename_i b6 _ _ _ _ _ _ _ _ _ _ _ _ _ _ _ _ _ _ _ _; change Nat at b6) | (rename_i b6 _ _ _ _ _ _ _ _ _ _ _ _ _ _ _ _ _ _ _ _ _; change Nat at b6) | (rename_i b6 _ _ _ _ _ _ _ _ _ _ _ _ _ _ _ _ _ _ _ _ _ _; change Nat at b6) | (rename_i b6 _ _ _ _ _ _ _ _ _ _ _ _ _ _ _ _ _ _ _ _ _ _ _; change Nat at b6) | (rename_i b6 _ _ _ _ _ _ _ _ _ _ _ _ _ _ _ _ _ _ _ _ _ _ _ _; change Nat at b6) | (rename_i b6 _ _ _ _ _ _ _ _ _ _ _ _ _ _ _ _ _ _ _ _ _ _ _ _ _; change Nat at b6))
 (first | (rename_i b5; change Nat at b5) | (rename_i b5 _; change Nat at b5) | (rename_i b5 _ _; change Nat at b5) | (rename_i b5 _ _ _; change Nat at b5) | (rename_i b5 _ _ _ _; change Nat at b5) | (rename_i b5 _ _ _ _ _; change Nat at b5) | (rename_i b5 _ _ _ _ _ _; change Nat at b5) | (rename_i b5 _ _ _ _ _ _ _; change Nat at b5) | (rename_i b5 _ _ _ _ _ _ _ _; change Nat at b5) | (rename_i b5 _ _ _ _ _ _ _ _ _; change Nat at b5) | (rename_i b5 _ _ _ _ _ _ _ _ _ _; change Nat at b5) | (rename_i b5 _ _ _ _ _ _ _ _ _ _ _; change Nat at b5) | (rename_i b5 _ _ _ _ _ _ _ _ _ _ _ _; change Nat at b5) | (rename_i b5 _ _ _ _ _ _ _ _ _ _ _ _ _; change Nat at b5) | (rename_i b5 _ _ _ _ _ _ _ _ _ _ _ _ _ _; change Nat at b5) | (rename_i b5 _ _ _ _ _ _ _ _ _ _ _ _ _ _ _; change Nat at b5) | (rename_i b5 _ _ _ _ _ _ _ _ _ _ _ _ _ _ _ _; change Nat at b5) | (rename_i b5 _ _ _ _ _ _ _ _ _ _ _ _ _ _ _ _ _; change Nat at b5) | (rename_i b5 _ _ _ _ _ _ _ _ _ _ _ _ _ _ _ _ _ _; change Nat at b5) | (rename_i b5 _ _ _ _ _ _ _ _ _ _ _ _ _ _ _ _ _ _ _; change Nat at b5) | (rename_i b5 _ _ _ _ _ _ _ _ _ _ _ _ _ _ _ _ _ _ _ _; change Nat at b5) | (rename_i b5 _ _ _ _ _ _ _ _ _ _ _ _ _ _ _ _ _ _ _ _ _; change Nat at b5) | (rename_i b5 _ _ _ _ _ _ _ _ _ _ _ _ _ _ _ _ _ _ _ _ _ _; change Nat at b5) | (rename_i b5 _ _ _ _ _ _ _ _ _ _ _ _ _ _ _ _ _ _ _ _ _ _ _; change Nat at b5) | (rename_i b5 _ _ _ _ _ _ _ _ _ _ _ _ _ _ _ _ _ _ _ _ _ _ _ _; change Nat at b5) | (rename_i b5 _ _ _ _ _ _ _ _ _ _ _ _ _ _ _ _ _ _ _ _ _ _ _ _ _; change Nat at b5))
 (first | (rename_i b4; change Nat at b4) | (rename_i b4 _; change Nat at b4) | (rename_i b4 _ _; change Nat at b4) | (rename_i b4 _ _ _; change Nat at b4) | (rename_i b4 _ _ _ _; change Nat at b4) | (rename_i b4 _ _ _ _ _; change Nat at b4) | (rename_i b4 _ _ _ _ _ _; change Nat at b4) | (rename_i b4 _ _ _ _ _ _ _; change Nat at b4) | (rename_i b4 _ _ _ _ _ _ _ _; change Nat at b4) | (rename_i b4 _ _ _ _ _ _ _ _ _; change Nat at b4) | (rename_i b4 _ _ _ _ _ _ _ _ _ _; change Nat at b4) | (rename_i b4 _ _ _ _ _ _ _ _ _ _ _; change Nat at b4) | (rename_i b4 _ _ _ _ _ _ _ _ _ _ _ _; change Nat at b4) | (rename_i b4 _ _ _ _ _ _ _ _ _ _ _ _ _; change Nat at b4) | (rename_i b4 _ _ _ _ _ _ _ _ _ _ _ _ _ _; change Nat at b4) | (rename_i b4 _ _ _ _ _ _ _ _ _ _ _ _ _ _ _; change Nat at b4) | (rename_i b4 _ _ _ _ _ _ _ _ _ _ _ _ _ _ _ _; change Nat at b4) | (rename_i b4 _ _ _ _ _ _ _ _ _ _ _ _ _ _ _ _ _; change Nat at b4) | (rename_i b4 _ _ _ _ _ _ _ _ _ _ _ _ _ _ _ _ _ _; change Nat at b4) | (rename_i b4 _ _ _ _ _ _ _ _ _ _ _ _ _ _ _ _ _ _ _; change Nat at b4) | (rename_i b4 _ _ _ _ _ _ _ _ _ _ _ _ _ _ _ _ _ _ _ _; change Nat at b4) | (rename_i b4 _ _ _ _ _ _ _ _ _ _ _ _ _ _ _ _ _ _ _ _ _; change Nat at b4) | (rename_i b4 _ _ _ _ _ _ _ _ _ _ _ _ _ _ _ _ _ _ _ _ _ _; change Nat at b4) | (rename_i b4 _ _ _ _ _ _ _ _ _ _ _ _ _ _ _ _ _ _ _ _ _ _ _; change Nat at b4) | (rename_i b4 _ _ _ _ _ _ _ _ _ _ _ _ _ _ _ _ _ _ _ _ _ _ _ _; change Nat at b4) | (rename_i b4 _ _ _ _ _ _ _ _ _ _ _ _ _ _ _ _ _ _ _ _ _ _ _ _ _; change Nat at b4))
 (first | (rename_i b3; change Nat at b3) | (rename_i b3 _; change Nat at b3) | (rename_i b3 _ _; change Nat at b3) | (rename_i b3 _ _ _; change Nat at b3) | (rename_i b3 _ _ _ _; change Nat at b3) | (rename_i b3 _ _ _ _ _; change Nat at b3) | (rename_i b3 _ _ _ _ _ _; change Nat at b3) | (rename_i b3 _ _ _ _ _ _ _; change Nat at b3) | (rename_i b3 _ _ _ _ _ _ _ _; change Nat at b3) | (rename_i b3 _ _ _ _ _ _ _ _ _; change Nat at b3) | (rename_i b3 _ _ _ _ _ _ _ _ _ _; change Nat at b3) | (rename_i b3 _ _ _ _ _ _ _ _ _ _ _; change Nat at b3) | (rename_i b3 _ _ _ _ _ _ _ _ _ _ _ _; change Nat at b3) | (rename_i b3 _ _ _ _ _ _ _ _ _ _ _ _ _; change Nat at b3) | (rename_i b3 _ _ _ _ _ _ _ _ _ _ _ _ _ _; change Nat at b3) | (rename_i b3 _ _ _ _ _ _ _ _ _ _ _ _ _ _ _; change Nat at b3) | (rename_i b3 _ _ _ _ _ _ _ _ _ _ _ _ _ _ _ _; change Nat at b3) | (rename_i b3 _ _ _ _ _ _ _ _ _ _ _ _ _ _ _ _ _; change Nat at b3) | (rename_i b3 _ _ _ _ _ _ _ _ _ _ _ _ _ _ _ _ _ _; change Nat at b3) | (rename_i b3 _ _ _ _ _ _ _ _ _ _ _ _ _ _ _ _ _ _ _; change Nat at b3) | (rename_i b3 _ _ _ _ _ _ _ _ _ _ _ _ _ _ _ _ _ _ _ _; change Nat at b3) | (rename_i b3 _ _ _ _ _ _ _ _ _ _ _ _ _ _ _ _ _ _ _ _ _; change Nat at b3) | (rename_i b3 _ _ _ _ _ _ _ _ _ _ _ _ _ _ _ _ _ _ _ _ _ _; change Nat at b3) | (rename_i b3 _ _ _ _ _ _ _ _ _ _ _ _ _ _ _ _ _ _ _ _ _ _ _; change Nat at b3) | (rename_i b3 _ _ _ _ _ _ _ _ _ _ _ _ _ _ _ _ _ _ _ _ _ _ _ _; change Nat at b3) | (rename_i b3 _ _ _ _ _ _ _ _ _ _ _ _ _ _ _ _ _ _ _ _ _ _ _ _ _; change Nat at b3))
 refine' xBp (false :: false :: false :: false :: false :: false :: false :: false :: false :: false :: true :: true :: true :: true :: true :: false :: false :: false :: false :: false :: false :: false :: false :: false :: false :: false :: false :: false :: false :: false :: true :: true :: true :: true :: true :: true :: true :: true :: true :: true :: true :: true :: true :: true :: true :: true :: true :: true :: true :: true :: true :: true :: true :: true :: true :: true :: true :: true :: true :: true :: true :: false :: []) (fun j l => l) (fun j => [(blk, .cells (nl (Y j)).toArray 24), (b8, .cells (nl (X j)).toArray 24), (b7, .cells (nl (S j)).toArray 24), (b6, .cells (nl (R j)).toArray 24), (b5, .cells (nl 0).toArray 24), (b4, .cells (nl m).toArray 24), (b3, .cells (nl a).toArray 24)]) N ?h0 ?hR ?hs ?he
 case hR =>
  show Rep _ _ [(_, .cells (nl (Y N)).toArray _), (_, .cells (nl (X N)).toArray _), (_, .cells (nl (S N)).toArray _), (_, .cells (nl (R N)).toArray _), _, _, _] _
  rw [k1.out, k2.out, k3.out, k4.out, ← xCx]
  exact hR
 case h0 =>
  exact xAn rfl rfl rfl
 case hs =>
  clear hR
  intro j tm w hj ht hR K hK
  repeat (first | (obtain ⟨x, tm', e, ht'⟩ := xAg ht; clear ht; subst e; have ht := ht'; clear ht') | (obtain ⟨tm', e, ht'⟩ := xAd ht; clear ht; subst e; have ht := ht'; clear ht'))
  obtain rfl := xAl ht
  clear ht
  obtain ⟨g1, g2, g3, g4, g5⟩ := k8.out j hj
  obtain ⟨l1, l2, l3, l4⟩ := k7.out (j + 1) (by omega)
  have l5 := (k7.out j (by omega)).2.1
  obtain ⟨Q, hQ⟩ : ∃ Q, R (j + 1) / S (j + 1) = Q := ⟨_, rfl⟩
  rw [hQ] at g5
  have lQ : Q < m := by
   rw [← hQ, Nat.div_lt_iff_lt_mul (by omega)]
   have := Nat.mul_le_mul_left m (show 2 ≤ S (j + 1) by omega)
   omega
  obtain ⟨T, hT⟩ : ∃ T, mulN Q (Y (j + 1)) m = T := ⟨_, rfl⟩
  have lT : T < m := by rw [← hT, xCe]; exact Nat.mod_lt _ (by omega)
  rw [hT] at g5
  have dq := rd_lit (q := Q) (r := S j) (e := 0) (show R (j + 1) < B by omega) (show S (j + 1) < B by omega) (by rw [xEm, hQ]) (by rw [xEk (by omega), g3]) (by rw [if_neg (by omega)])
  obtain ⟨q0, hq0⟩ : ∃ q0, quo0 Q m = q0 := ⟨_, rfl⟩
  have dm := rd_lit (r := Q) (e := 0) (show Q < B by omega) hm hq0 (by rw [xEk (by omega), Nat.mod_eq_of_lt lQ]) (by rw [if_neg (by omega)])
  have tq := fun w => xEl Q (Y (j + 1)) m lQ l4 hm w
  rw [hT] at tq
  have sq := fun w => ref04_sub (X (j + 1)) T m (by omega) (by omega) hm w
  rw [if_pos ⟨h1, l3, lT⟩, if_pos ⟨h1, l3, lT⟩, ← g5] at sq
  have es' : eqN (S (j + 1)) n1 = false := xDk (by omega) L1 (by have := hn1.out; omega)
  have gR := Held.mk g2
  have gX := Held.mk g4
  clear g1 g2 g3 g4 g5 l1 l2 l3 l4 l5 hQ lQ hT lT hq0 es
  generalize S (j + 1) = s at *
  generalize R (j + 1) = r at *
  generalize X (j + 1) = x at *
  generalize Y (j + 1) = y at *
  go_wp2_with (first | (refine' aAq hR ?_; clear hR; intro blk w hR) | (refine' aBq hR ?_; clear hR; intro blk w hR) | (refine' aCq hR ?_) | (refine' aDq hR ?_) | (refine' aEq hR ?_) | (refine' aFq hR ?_; clear hR; intro w hR) | (refine' aGq hR ?_; clear hR; intro w hR) | fail)
  refine xAe hR [0, 0, 0] [] xBo (by kernel_rfl) rfl rfl (fun K hK => ?_)
  clear hR
  repeat ((first | (refine xAy ?_) | (refine' xAk (by decide) rfl (.inl rfl) rfl ?ha ?_) | (refine' xAk (by decide) rfl (.inr rfl) rfl ?ha ?_) | (refine' aHq ?ha ?_) | (refine' aIq ?ha ?_) | (refine' aJq ?ha ?_) | (refine' aKq ?ha ?_) | (refine' aLq ?ha ?_) | ((first | refine' xAc (by decide) rfl rfl rfl rfl (fun w => ?hq) ?ha ?_ | refine' xAs (by decide) rfl rfl rfl rfl (fun w => ?hq) ?ha ?_ | refine' xAi (by decide) rfl rfl rfl (fun w => ?hq) ?ha ?_ | refine' xAb (by decide) rfl rfl rfl (fun w => ?hq) ?ha ?_ | refine' xAh (by decide) rfl rfl rfl (fun w => ?hq) ?ha ?_ | refine' xAq (by decide) rfl rfl rfl rfl (fun w => ?hq) ?ha ?_ | refine' xAr (by decide) rfl rfl rfl rfl rfl rfl (fun w => ?hq) ?ha ?_ | refine' xAo (by decide) rfl rfl (fun w => ?hq) ?ha ?_ | refine' xAj (by decide) rfl rfl rfl (fun w => ?hq) ?ha ?_ | refine' xAp (by decide) rfl rfl rfl (fun w => ?hq) ?ha ?_); (case hq => go_simp; try rfl)) | (refine' xAf (by decide) rfl rfl rfl ?ha ?_) | (refine' xAx (by decide) rfl rfl rfl rfl ?ha ?_) | (refine' xAw (by decide) rfl ?ha ?_) | (refine' xAt rfl rfl rfl (xAv Tryz.func131 (by kernel_rfl) (by kernel_rfl) _) (fun w => o1 w) ?ha ?_)); try (case ha => simp only [kP, kQ, kA, kB]; try rfl))
  refine xBb (hK _ _ ?_)
  clear hK K
  refine xBe (fun Q hQ => ?_)
  try simp only [List.nil_append, List.cons_append]
  repeat ((first | refine' xAm rfl (.inl rfl) rfl ?hk ?ha ?_ | refine' xAm rfl (.inr rfl) rfl ?hk ?ha ?_ | (refine' aMq ?hk ?ha ?_) | (refine' aNq ?hk ?ha ?_) | (refine' aOq ?hk ?ha ?_) | (refine' xAz rfl (fun w => ?hq) ?hk ?ha ?_; (case hq => go_simp; try rfl))); (case hk => intro p hp; first | exact absurd hp List.not_mem_nil | (obtain rfl := List.mem_singleton.1 hp; repeat (first | exact List.Mem.head _ | apply mT))); (case ha => simp only [kP, kQ, kA, kB]; try rfl))
  refine xBd (fun w hR => hQ _ _ ?_)
  clear hQ Q
  go_wp2_with (first | (refine' aAq hR ?_; clear hR; intro blk w hR) | (refine' aBq hR ?_; clear hR; intro blk w hR) | (refine' aCq hR ?_) | (refine' aDq hR ?_) | (refine' aEq hR ?_) | (refine' aFq hR ?_; clear hR; intro w hR) | (refine' aGq hR ?_; clear hR; intro w hR) | (go_at_call 130; refine (dq _).mono ?_; rintro e w ⟨rfl, hb⟩; replace hR := hR.call hb; clear hb) | (go_at_call 130; refine (dm _).mono ?_; rintro e w ⟨rfl, hb⟩; replace hR := hR.call hb; clear hb))
  refine' xCb hR [1, 1, 1, 1, 1, 1, 1, 1, 1, 1, 2, 2, 2] 10 13 _ _ [11, 12] xBo (by kernel_rfl) rfl rfl rfl rfl rfl (xEr rfl rfl ?z1) ?_
  case z1 => exact inferInstance
  intro K hK
  clear hR
  repeat ((first | (refine xAy ?_) | (refine' xAk (by decide) rfl (.inl rfl) rfl ?ha ?_) | (refine' xAk (by decide) rfl (.inr rfl) rfl ?ha ?_) | (refine' aHq ?ha ?_) | (refine' aIq ?ha ?_) | (refine' aJq ?ha ?_) | (refine' xCh rfl rfl rfl inferInstance ?hm ?hn ?ha ?_; (case hm => first | with_reducible assumption | repeat (first | exact .head _ | apply mT)); (case hn => first | rfl | simp)) | (refine' aKq ?ha ?_) | (refine' aLq ?ha ?_) | ((first | refine' xAc (by decide) rfl rfl rfl rfl (fun w => ?hq) ?ha ?_ | refine' xAs (by decide) rfl rfl rfl rfl (fun w => ?hq) ?ha ?_ | refine' xAi (by decide) rfl rfl rfl (fun w => ?hq) ?ha ?_ | refine' xAb (by decide) rfl rfl rfl (fun w => ?hq) ?ha ?_ | refine' xAh (by decide) rfl rfl rfl (fun w => ?hq) ?ha ?_ | refine' xAq (by decide) rfl rfl rfl rfl (fun w => ?hq) ?ha ?_ | refine' xAr (by decide) rfl rfl rfl rfl rfl rfl (fun w => ?hq) ?ha ?_ | refine' xAo (by decide) rfl rfl (fun w => ?hq) ?ha ?_ | refine' xAj (by decide) rfl rfl rfl (fun w => ?hq) ?ha ?_ | refine' xAp (by decide) rfl rfl rfl (fun w => ?hq) ?ha ?_); (case hq => go_simp; try rfl)) | (refine' xAf (by decide) rfl rfl rfl ?ha ?_) | (refine' xAx (by decide) rfl rfl rfl rfl ?ha ?_) | (refine' xAw (by decide) rfl ?ha ?_) | (refine' xBx rfl rfl rfl (xAv Tryz.func213 (by kernel_rfl) (by kernel_rfl) _) (fun w => tq w) ?ha ?_) | (refine' xBx rfl rfl rfl (xAv Tryz.func200 (by kernel_rfl) (by kernel_rfl) _) (fun w => sq w) ?ha ?_)); try (case ha => simp only [kP, kQ, kA, kB]; try rfl))
  try simp only [List.nil_append, List.cons_append]
  refine xBb (hK _ _ (fun _ => ?_))
  clear hK K
  refine xBe (fun Q hQ => ?_)
  simp only [kP, kQ, kA, kB]
  repeat ((first | refine' xAm rfl (.inl rfl) rfl ?hk ?ha ?_ | refine' xAm rfl (.inr rfl) rfl ?hk ?ha ?_ | (refine' aMq ?hk ?ha ?_) | (refine' aNq ?hk ?ha ?_) | (refine' aOq ?hk ?ha ?_) | (refine' xAz rfl (fun w => ?hq) ?hk ?ha ?_; (case hq => go_simp; try rfl))); (case hk => intro p hp; repeat (first | exact hp | apply mT)); (case ha => simp only [kP, kQ, kA, kB]; try rfl))
  refine xBd (fun w hR => hQ _ _ ?_)
  clear hQ Q
  go_wp2_with (first | (refine' aAq hR ?_; clear hR; intro blk w hR) | (refine' aBq hR ?_; clear hR; intro blk w hR) | (refine' aCq hR ?_) | (refine' aDq hR ?_) | (refine' aEq hR ?_) | (refine' aFq hR ?_; clear hR; intro w hR) | (refine' aGq hR ?_; clear hR; intro w hR) | fail)
  refine hK.out _ _ (xAn rfl rfl rfl) ?_
  show Rep _ _ ((_, .cells (nl (Y j)).toArray _) :: (_, .cells (nl (X j)).toArray _) :: (_, .cells (nl (S j)).toArray _) :: (_, .cells (nl (R j)).toArray _) :: _) _
  rw [gR.out, gX.out]
  exact hR.weaken (List.sublist_append_right [_, _, _] _)
 case he =>
  clear hR
  intro tm w ht hR K
  repeat (first | (obtain ⟨x, tm', e, ht'⟩ := xAg ht; clear ht; subst e; have ht := ht'; clear ht') | (obtain ⟨tm', e, ht'⟩ := xAd ht; clear ht; subst e; have ht := ht'; clear ht'))
  obtain rfl := xAl ht
  clear ht
  have e1 : eqN (S 0) n1 = true := xFk k5.out
  go_wp2_with (first | (refine' aAq hR ?_; clear hR; intro blk w hR) | (refine' aBq hR ?_; clear hR; intro blk w hR) | (refine' aCq hR ?_) | (refine' aDq hR ?_) | (refine' aEq hR ?_) | (refine' aFq hR ?_; clear hR; intro w hR) | (refine' aGq hR ?_; clear hR; intro w hR) | fail)
  refine xAe hR [0, 0, 0] [] xBo (by kernel_rfl) rfl rfl (fun K hK => ?_)
  clear hR
  repeat ((first | (refine xAy ?_) | (refine' xAk (by decide) rfl (.inl rfl) rfl ?ha ?_) | (refine' xAk (by decide) rfl (.inr rfl) rfl ?ha ?_) | (refine' aHq ?ha ?_) | (refine' aIq ?ha ?_) | (refine' aJq ?ha ?_) | (refine' aKq ?ha ?_) | (refine' aLq ?ha ?_) | ((first | refine' xAc (by decide) rfl rfl rfl rfl (fun w => ?hq) ?ha ?_ | refine' xAs (by decide) rfl rfl rfl rfl (fun w => ?hq) ?ha ?_ | refine' xAi (by decide) rfl rfl rfl (fun w => ?hq) ?ha ?_ | refine' xAb (by decide) rfl rfl rfl (fun w => ?hq) ?ha ?_ | refine' xAh (by decide) rfl rfl rfl (fun w => ?hq) ?ha ?_ | refine' xAq (by decide) rfl rfl rfl rfl (fun w => ?hq) ?ha ?_ | refine' xAr (by decide) rfl rfl rfl rfl rfl rfl (fun w => ?hq) ?ha ?_ | refine' xAo (by decide) rfl rfl (fun w => ?hq) ?ha ?_ | refine' xAj (by decide) rfl rfl rfl (fun w => ?hq) ?ha ?_ | refine' xAp (by decide) rfl rfl rfl (fun w => ?hq) ?ha ?_); (case hq => go_simp; try rfl)) | (refine' xAf (by decide) rfl rfl rfl ?ha ?_) | (refine' xAx (by decide) rfl rfl rfl rfl ?ha ?_) | (refine' xAw (by decide) rfl ?ha ?_) | (refine' xAt rfl rfl rfl (xAv Tryz.func131 (by kernel_rfl) (by kernel_rfl) _) (fun w => o1 w) ?ha ?_)); try (case ha => simp only [kP, kQ, kA, kB]; try rfl))
  refine xBb (hK _ _ ?_)
  clear hK K
  refine xBe (fun Q hQ => ?_)
  try simp only [List.nil_append, List.cons_append]
  repeat ((first | refine' xAm rfl (.inl rfl) rfl ?hk ?ha ?_ | refine' xAm rfl (.inr rfl) rfl ?hk ?ha ?_ | (refine' aMq ?hk ?ha ?_) | (refine' aNq ?hk ?ha ?_) | (refine' aOq ?hk ?ha ?_) | (refine' xAz rfl (fun w => ?hq) ?hk ?ha ?_; (case hq => go_simp; try rfl))); (case hk => intro p hp; first | exact absurd hp List.not_mem_nil | (obtain rfl := List.mem_singleton.1 hp; repeat (first | exact List.Mem.head _ | apply mT))); (case ha => simp only [kP, kQ, kA, kB]; try rfl))
  refine xBd (fun w hR => hQ _ _ ?_)
  clear hQ Q
  go_wp2_with (first | (refine' aAq hR ?_; clear hR; intro blk w hR) | (refine' aBq hR ?_; clear hR; intro blk w hR) | (refine' aCq hR ?_) | (refine' aDq hR ?_) | (refine' aEq hR ?_) | (refine' aFq hR ?_; clear hR; intro w hR) | (refine' aGq hR ?_; clear hR; intro w hR) | fail)
  (refine' bodyPost_ret (xAu Tryz.results179 rfl (hR.loadAll (P := Tryz.prog) (ty := 24) ?hm ?hn)) rfl ⟨?_, hR.below⟩; (case hm => first | with_reducible assumption | repeat (first | exact .head _ | apply mT)); (case hn => first | rfl | simp))
  rfl
theorem ref04_inv (a m : Nat) (ha : a < B) (hm : m < B) (w : World) : Calls Tryz.prog 179 #[num a, num m] w fun e w' =>
  e = .returned (.tuple #[num (if okE a m then invM a m else 0), .int .i64 (invE a m)]) ∧ Below w.heap.size w w' := by
 have cm := fun w => xCz a a m ha ha hm w
 unfold invE
 by_cases ok : okE a m
 ·rw [if_pos ok, if_pos ok]
  by_cases hg : Nat.gcd a m = 1
  ·rw [if_pos hg]
   exact refInv_yes a m ok.1 ok.2 hm hg w
  ·rw [if_neg hg, invM_no hg]
   rw [decide_eq_true (show okM a a m from ⟨ok.1, ok.2, ok.2⟩)] at cm
   obtain ⟨n1, hn1⟩ : ∃ n, n = 1 := ⟨_, rfl⟩
   have L1 : n1 < B := lt_B (by omega)
   have o1 : ∀ w, Calls Tryz.prog 131 #[.int .u64 1] w fun e w' => e = .returned (num n1) ∧ Below w.heap.size w w' := fun w => by
    rw [hn1]; exact xCr 1 (by decide) w
   have cg := fun w => xHc a m ha hm w
   rw [xGn] at cg
   have eg : eqN (Nat.gcd a m) n1 = false := xDk (gcd_lt_B ha hm) L1 (by omega)
   generalize Nat.gcd a m = G at *
   clear ok hg L1 hn1
   have hR := Rep.init w
   go_enter Tryz.func179, Tryz.ntmps179
   go_wp2_with (first | (refine' aAq hR ?_; clear hR; intro blk w hR) | (refine' aBq hR ?_; clear hR; intro blk w hR) | (refine' aCq hR ?_) | (refine' aDq hR ?_) | (refine' aEq hR ?_) | (refine' aFq hR ?_; clear hR; intro w hR) | (refine' aGq hR ?_; clear hR; intro w hR) | (go_at_call 211; refine (cm _).mono ?_; rintro e w ⟨rfl, hb⟩; replace hR := hR.call hb; clear hb) | (go_at_call 212; refine (cg _).mono ?_; rintro e w ⟨rfl, hb⟩; replace hR := hR.call hb; clear hb) | (go_at_call 131; refine (o1 _).mono ?_; rintro e w ⟨rfl, hb⟩; replace hR := hR.call hb; clear hb))
   (refine' bodyPost_ret (xAu Tryz.results179 rfl (hR.loadAll (P := Tryz.prog) (ty := 24) ?hm ?hn)) rfl ⟨?_, hR.below⟩; (case hm => first | with_reducible assumption | repeat (first | exact .head _ | apply mT)); (case hn => first | rfl | simp))
   rw [xBn]
   rfl
 ·rw [if_neg ok, if_neg ok]
  rw [decide_eq_false (fun h : okM a a m => ok ⟨h.1, h.2.1⟩)] at cm
  clear ok
  have hR := Rep.init w
  go_enter Tryz.func179, Tryz.ntmps179
  go_wp2_with (first | (refine' aAq hR ?_; clear hR; intro blk w hR) | (refine' aBq hR ?_; clear hR; intro blk w hR) | (refine' aCq hR ?_) | (refine' aDq hR ?_) | (refine' aEq hR ?_) | (refine' aFq hR ?_; clear hR; intro w hR) | (refine' aGq hR ?_; clear hR; intro w hR) | (go_at_call 211; refine (cm _).mono ?_; rintro e w ⟨rfl, hb⟩; replace hR := hR.call hb; clear hb))
  (refine' bodyPost_ret (xAu Tryz.results179 rfl (hR.loadAll (P := Tryz.prog) (ty := 24) ?hm ?hn)) rfl ⟨?_, hR.below⟩; (case hm => first | with_reducible assumption | repeat (first | exact .head _ | apply mT)); (case hn => first | rfl | simp))
  rw [xBn]
  rfl
end
end Go.Proofs.YtaaahfjpnggkbaaGreatDoor
