import Derived.Test.YtaaahfjpnggkbaaGreatDoorHG
import Derived.Test.YtaaahfjpnggkbaaGreatDoorHRefWide
import Derived.Test.YtaaahfjpnggkbaaGreatDoorHRefMul
import Derived.Test.YtaaahfjpnggkbaaGreatDoorHM
import Derived.Test.YtaaahfjpnggkbaaGreatDoorHJ
set_option linter.unusedSimpArgs false
set_option linter.unusedVariables false
set_option maxRecDepth 100000
set_option maxHeartbeats 20000000
namespace Go.Proofs.YtaaahfjpnggkbaaGreatDoor
open Go.RowKit
section
attribute [local irreducible] Calls
theorem rm_lit {a b l h : Nat} (ha : a < B) (hb : b < B) (hl : a * b % B = l) (hh : a * b / B = h) (w : World) : Calls Tryz.prog 233 #[num a, num b] w fun e w' =>
  e = .returned (.tuple #[num l, num h]) ∧ Below w.heap.size w w' := by
 have := refMul_any a b ha hb w
 rw [hh, ← xHj (a * b), hl] at this
 exact this
theorem rw_lit {a b m r : Nat} {e : Int} (ha : a < B) (hb : b < B) (hm : m < B) (hr : widN a b m = r) (he : (if m = 0 then (1 : Int) else 0) = e) (w : World) : Calls Tryz.prog 234 #[num a, num b, num m] w fun e' w' =>
  e' = .returned (.tuple #[num r, .int .i64 e]) ∧ Below w.heap.size w w' := by
 have := refWide_any a b m ha hb hm w
 rwa [hr, he] at this
theorem ra_mod {a b s : Nat} {c : Int} (ha : a < B) (hb : b < B) (hs : (a + b) % B = s) (hc : (((a + b) / B : Nat) : Int) = c) (w : World) : Calls Tryz.prog 196 #[num a, num b] w fun e w' =>
  e = .returned (.tuple #[num s, .int .u64 c]) ∧ Below w.heap.size w w' := by
 have := refAdd_any a b ha hb w
 rw [hc, ← xHj (a + b), hs] at this
 exact this
theorem rs_mod {a b d : Nat} {c : Int} (ha : a < B) (hb : b < B) (hd : (a + B - b) % B = d) (hc : bor (a : Int) (b : Int) = c) (w : World) : Calls Tryz.prog 132 #[num a, num b] w fun e w' =>
  e = .returned (.tuple #[num d, .int .u64 c]) ∧ Below w.heap.size w w' := by
 have := refSub_any a b ha hb w
 rw [hc, ← xHj (a + B - b), hd] at this
 exact this
theorem xDh (a b m : Nat) (ha : a < B) (hb : b < B) (hm : m < B) (w : World) : Calls Tryz.prog 211 #[num a, num b, num m] w fun e w' =>
  e = .returned (.bool (decide (okM a b m))) ∧ Below w.heap.size w w' := by
 obtain ⟨n1, h1⟩ : ∃ n, n = 1 := ⟨_, rfl⟩
 have o1 : ∀ w, Calls Tryz.prog 131 #[.int .u64 1] w fun e w' => e = .returned (num n1) ∧ Below w.heap.size w w' := fun w => by
  rw [h1]; exact xCw 1 (by decide) w
 have L1 : n1 < B := lt_B (by omega)
 have c1 := rc_lit hm L1 rfl
 have c2 := rc_lit ha hm rfl
 have c3 := rc_lit hb hm rfl
 have k1 := cmpN_gt m n1
 have k2 := cmpN_lt a m
 have k3 := cmpN_lt b m
 generalize cmpN m n1 = x1 at *
 generalize cmpN a m = x2 at *
 generalize cmpN b m = x3 at *
 by_cases j1 : 0 < x1
 ·by_cases j2 : x2 < 0
  ·by_cases j3 : x3 < 0
   ·rw [decide_eq_true (show okM a b m from ⟨by have := k1.mp j1; omega, k2.mp j2, k3.mp j3⟩)]
    clear k1 k2 k3 L1 h1
    have hR := Rep.init w
    go_enter Tryz.func211, Tryz.ntmps211
    go_wp2_with (refine' aAq hR ?_; clear hR; intro blk w hR)
    refine xAd hR [0, 0, 0, 0, 0, 0, 0, 0, 0, 0, 0, 0, 0, 0, 0, 0, 2] [] xBd (by kernel_rfl) rfl rfl (fun K hK => ?_)
    clear hR
    repeat ((first | (refine xAp ?_) | (refine' xAj (by decide) rfl (.inl rfl) rfl ?ha ?_) | (refine' aIq ?ha ?_) | ((refine' xAm (by decide) rfl rfl rfl rfl (fun w => ?hq) ?ha ?_); (case hq => go_simp; try rfl)) | (refine' xBh (by decide) rfl rfl rfl rfl ?ha ?_) | (refine' xAk rfl rfl rfl (xAi Tryz.func131 (by kernel_rfl) (by kernel_rfl) _) (fun w => o1 w) ?ha ?_) | (refine' xAk rfl rfl rfl (xAi Tryz.func185 (by kernel_rfl) (by kernel_rfl) _) (fun w => c1 w) ?ha ?_) | (refine' xAk rfl rfl rfl (xAi Tryz.func185 (by kernel_rfl) (by kernel_rfl) _) (fun w => c2 w) ?ha ?_) | (refine' xAk rfl rfl rfl (xAi Tryz.func185 (by kernel_rfl) (by kernel_rfl) _) (fun w => c3 w) ?ha ?_)); try (case ha => simp only [kP, kQ, kA, kB]; try rfl))
    refine xAo (hK _ _ ?_)
    clear hK K
    refine xAr (fun Q hQ => ?_)
    try simp only [List.nil_append, List.cons_append]
    repeat ((refine' xBf rfl (.inr rfl) rfl ?hk ?ha ?_); (case hk => intro p hp; first | exact absurd hp List.not_mem_nil | (obtain rfl := List.mem_singleton.1 hp; repeat (first | exact List.Mem.head _ | apply mT))); (case ha => simp only [kP, kQ, kA, kB]; try rfl))
    refine xAs (fun w hR => hQ _ _ ?_)
    clear hQ Q
    go_wp2_with (fail)
    go_ret
    exact ⟨rfl, hR.below⟩
   ·rw [decide_eq_false (fun h : okM a b m => j3 (k3.mpr h.2.2))]
    have j4 : decide (x3 < 0) = false := decide_eq_false j3
    clear k1 k2 k3 L1 h1
    have hR := Rep.init w
    go_enter Tryz.func211, Tryz.ntmps211
    go_wp2_with (refine' aAq hR ?_; clear hR; intro blk w hR)
    refine xAd hR [0, 0, 0, 0, 0, 0, 0, 0, 0, 0, 0, 0, 0, 0, 0, 0, 2] [] xBd (by kernel_rfl) rfl rfl (fun K hK => ?_)
    clear hR
    repeat ((first | (refine xAp ?_) | (refine' xAj (by decide) rfl (.inl rfl) rfl ?ha ?_) | (refine' aIq ?ha ?_) | ((refine' xAm (by decide) rfl rfl rfl rfl (fun w => ?hq) ?ha ?_); (case hq => go_simp; try rfl)) | (refine' xBh (by decide) rfl rfl rfl rfl ?ha ?_) | (refine' xAk rfl rfl rfl (xAi Tryz.func131 (by kernel_rfl) (by kernel_rfl) _) (fun w => o1 w) ?ha ?_) | (refine' xAk rfl rfl rfl (xAi Tryz.func185 (by kernel_rfl) (by kernel_rfl) _) (fun w => c1 w) ?ha ?_) | (refine' xAk rfl rfl rfl (xAi Tryz.func185 (by kernel_rfl) (by kernel_rfl) _) (fun w => c2 w) ?ha ?_) | (refine' xAk rfl rfl rfl (xAi Tryz.func185 (by kernel_rfl) (by kernel_rfl) _) (fun w => c3 w) ?ha ?_)); try (case ha => simp only [kP, kQ, kA, kB]; try rfl))
    refine xAo (hK _ _ ?_)
    clear hK K
    refine xAr (fun Q hQ => ?_)
    try simp only [List.nil_append, List.cons_append]
    repeat ((refine' xBf rfl (.inr rfl) rfl ?hk ?ha ?_); (case hk => intro p hp; first | exact absurd hp List.not_mem_nil | (obtain rfl := List.mem_singleton.1 hp; repeat (first | exact List.Mem.head _ | apply mT))); (case ha => simp only [kP, kQ, kA, kB]; try rfl))
    refine xAs (fun w hR => hQ _ _ ?_)
    clear hQ Q
    go_wp2_with (fail)
    go_ret
    exact ⟨rfl, hR.below⟩
  ·rw [decide_eq_false (fun h : okM a b m => j2 (k2.mpr h.2.1))]
   have j4 : decide (x2 < 0) = false := decide_eq_false j2
   clear k1 k2 k3 L1 h1
   have hR := Rep.init w
   go_enter Tryz.func211, Tryz.ntmps211
   go_wp2_with (refine' aAq hR ?_; clear hR; intro blk w hR)
   refine xAd hR [0, 0, 0, 0, 0, 0, 0, 0, 0, 0, 0, 0, 0, 0, 0, 0, 2] [] xBd (by kernel_rfl) rfl rfl (fun K hK => ?_)
   clear hR
   repeat ((first | (refine xAp ?_) | (refine' xAj (by decide) rfl (.inl rfl) rfl ?ha ?_) | (refine' aIq ?ha ?_) | ((refine' xAm (by decide) rfl rfl rfl rfl (fun w => ?hq) ?ha ?_); (case hq => go_simp; try rfl)) | (refine' xBh (by decide) rfl rfl rfl rfl ?ha ?_) | (refine' xCe (by decide) rfl ?ha ?_) | (refine' xAk rfl rfl rfl (xAi Tryz.func131 (by kernel_rfl) (by kernel_rfl) _) (fun w => o1 w) ?ha ?_) | (refine' xAk rfl rfl rfl (xAi Tryz.func185 (by kernel_rfl) (by kernel_rfl) _) (fun w => c1 w) ?ha ?_) | (refine' xAk rfl rfl rfl (xAi Tryz.func185 (by kernel_rfl) (by kernel_rfl) _) (fun w => c2 w) ?ha ?_)); try (case ha => simp only [kP, kQ, kA, kB]; try rfl))
   refine xAo (hK _ _ ?_)
   clear hK K
   refine xAr (fun Q hQ => ?_)
   try simp only [List.nil_append, List.cons_append]
   repeat ((refine' xBf rfl (.inr rfl) rfl ?hk ?ha ?_); (case hk => intro p hp; first | exact absurd hp List.not_mem_nil | (obtain rfl := List.mem_singleton.1 hp; repeat (first | exact List.Mem.head _ | apply mT))); (case ha => simp only [kP, kQ, kA, kB]; try rfl))
   refine xAs (fun w hR => hQ _ _ ?_)
   clear hQ Q
   go_wp2_with (fail)
   go_ret
   exact ⟨rfl, hR.below⟩
 ·rw [decide_eq_false (fun h : okM a b m => j1 (k1.mpr (by have := h.1; omega)))]
  have j4 : decide (0 < x1) = false := decide_eq_false j1
  clear k1 k2 k3 L1 h1
  have hR := Rep.init w
  go_enter Tryz.func211, Tryz.ntmps211
  go_wp2_with (refine' aAq hR ?_; clear hR; intro blk w hR)
  refine xAd hR [0, 0, 0, 0, 0, 0, 0, 0, 0, 0, 0, 0, 0, 0, 0, 0, 2] [] xBd (by kernel_rfl) rfl rfl (fun K hK => ?_)
  clear hR
  repeat ((first | (refine xAp ?_) | (refine' xAj (by decide) rfl (.inl rfl) rfl ?ha ?_) | (refine' aIq ?ha ?_) | ((refine' xAm (by decide) rfl rfl rfl rfl (fun w => ?hq) ?ha ?_); (case hq => go_simp; try rfl)) | (refine' xBh (by decide) rfl rfl rfl rfl ?ha ?_) | (refine' xCe (by decide) rfl ?ha ?_) | (refine' xAk rfl rfl rfl (xAi Tryz.func131 (by kernel_rfl) (by kernel_rfl) _) (fun w => o1 w) ?ha ?_) | (refine' xAk rfl rfl rfl (xAi Tryz.func185 (by kernel_rfl) (by kernel_rfl) _) (fun w => c1 w) ?ha ?_)); try (case ha => simp only [kP, kQ, kA, kB]; try rfl))
  refine xAo (hK _ _ ?_)
  clear hK K
  refine xAr (fun Q hQ => ?_)
  try simp only [List.nil_append, List.cons_append]
  repeat ((refine' xBf rfl (.inr rfl) rfl ?hk ?ha ?_); (case hk => intro p hp; first | exact absurd hp List.not_mem_nil | (obtain rfl := List.mem_singleton.1 hp; repeat (first | exact List.Mem.head _ | apply mT))); (case ha => simp only [kP, kQ, kA, kB]; try rfl))
  refine xAs (fun w hR => hQ _ _ ?_)
  clear hQ Q
  go_wp2_with (fail)
  go_ret
  exact ⟨rfl, hR.below⟩
theorem ref04_add (a b m : Nat) (ha : a < B) (hb : b < B) (hm : m < B) (w : World) : Calls Tryz.prog 194 #[num a, num b, num m] w fun e w' =>
  e = .returned (.tuple #[num (if okM a b m then (a + b) % m else 0), .int .i64 (if okM a b m then 0 else 1)]) ∧ Below w.heap.size w w' := by
 have bp := xEy
 have cm := fun w => xDh a b m ha hb hm w
 by_cases ok : okM a b m
 ·rw [if_pos ok, if_pos ok]
  rw [decide_eq_true ok] at cm
  obtain ⟨ok1, ok2, ok3⟩ := ok
  obtain ⟨x, hx⟩ : ∃ x, (a + b) % B = x := ⟨_, rfl⟩
  obtain ⟨k, hk⟩ : ∃ k, (a + b) / B = k := ⟨_, rfl⟩
  have hdm := Nat.div_add_mod (a + b) B
  rw [hx, hk] at hdm
  have lx : x < B := by rw [← hx]; exact Nat.mod_lt _ bp
  have lk : k < 2 := by rw [← hk, Nat.div_lt_iff_lt_mul bp]; omega
  obtain ⟨y, hy⟩ : ∃ y, (x + B - m) % B = y := ⟨_, rfl⟩
  have s1 := ra_mod (c := (k : Int)) ha hb hx (by rw [hk])
  have d1 := rs_mod lx hm hy rfl
  have cc := rc_lit lx hm rfl
  have hcg := xFv x m
  generalize cmpN x m = t at *
  have hk2 : k = 0 ∨ k = 1 := by omega
  by_cases hc : m ≤ a + b
  ·have hr : (a + b) % m = a + b - m := by rw [Nat.mod_eq_sub_mod hc, Nat.mod_eq_of_lt (by omega)]
   have ey : y = (a + b) % m := by
    rw [hr, ← hy]
    rcases hk2 with rfl | rfl
    ·rw [show x + B - m = (a + b - m) + B by omega, Nat.add_mod_right, Nat.mod_eq_of_lt (by omega)]
    ·rw [show x + B - m = a + b - m by omega, Nat.mod_eq_of_lt (by omega)]
   rw [← ey]
   have hcase : (k : Int) = 1 ∨ ((k : Int) = 0 ∧ 0 ≤ t) := by
    rcases hk2 with rfl | rfl
    ·exact .inr ⟨rfl, hcg.mpr (by omega)⟩
    ·exact .inl rfl
   generalize bor (x : Int) (m : Int) = l at *
   generalize (k : Int) = kk at *
   clear hcg hc hr ey hx hk hdm lx lk hk2 hy bp ok1 ok2 ok3
   have hR := Rep.init w
   rcases hcase with rfl | ⟨rfl, cg⟩
   all_goals
    go_enter Tryz.func194, Tryz.ntmps194
    go_wp2_with (first | (refine' aAq hR ?_; clear hR; intro blk w hR) | (refine' aBq hR ?_; clear hR; intro blk w hR) | (refine' aEq hR ?_) | (refine' aFq hR ?_; clear hR; intro w hR) | (refine' aCr hR ?_) | (go_at_call 211; refine (cm _).mono ?_; rintro e w ⟨rfl, hb⟩; replace hR := hR.call hb; clear hb) | (go_at_call 196; refine (s1 _).mono ?_; rintro e w ⟨rfl, hb⟩; replace hR := hR.call hb; clear hb) | (go_at_call 132; refine (d1 _).mono ?_; rintro e w ⟨rfl, hb⟩; replace hR := hR.call hb; clear hb) | (go_at_call 185; refine (cc _).mono ?_; rintro e w ⟨rfl, hb⟩; replace hR := hR.call hb; clear hb))
    (refine' bodyPost_ret (xAh Tryz.results194 rfl (hR.loadAll (P := Tryz.prog) (ty := 24) ?hm ?hn)) rfl ⟨?_, hR.below⟩; (case hm => first | with_reducible assumption | repeat (first | exact .head _ | apply mT)); (case hn => first | rfl | simp))
    rfl
  ·have hr : (a + b) % m = x := by
    rw [Nat.mod_eq_of_lt (by omega), ← hx, Nat.mod_eq_of_lt (by omega)]
   have k0 : (k : Int) = 0 := by
    rw [← hk, Nat.div_eq_of_lt (by omega)]; rfl
   have cg : ¬ 0 ≤ t := fun h => by
    have := hcg.mp h
    rw [← hx, Nat.mod_eq_of_lt (by omega)] at this
    omega
   rw [hr]
   rw [k0] at s1
   clear hcg hc hr hx hk hdm lx lk hk2 hy bp ok1 ok2 ok3 d1 k0
   have hR := Rep.init w
   go_enter Tryz.func194, Tryz.ntmps194
   go_wp2_with (first | (refine' aAq hR ?_; clear hR; intro blk w hR) | (refine' aBq hR ?_; clear hR; intro blk w hR) | (refine' aEq hR ?_) | (refine' aFq hR ?_; clear hR; intro w hR) | (refine' aCr hR ?_) | (go_at_call 211; refine (cm _).mono ?_; rintro e w ⟨rfl, hb⟩; replace hR := hR.call hb; clear hb) | (go_at_call 196; refine (s1 _).mono ?_; rintro e w ⟨rfl, hb⟩; replace hR := hR.call hb; clear hb) | (go_at_call 185; refine (cc _).mono ?_; rintro e w ⟨rfl, hb⟩; replace hR := hR.call hb; clear hb))
   (refine' bodyPost_ret (xAh Tryz.results194 rfl (hR.loadAll (P := Tryz.prog) (ty := 24) ?hm ?hn)) rfl ⟨?_, hR.below⟩; (case hm => first | with_reducible assumption | repeat (first | exact .head _ | apply mT)); (case hn => first | rfl | simp))
   rfl
 ·rw [if_neg ok, if_neg ok]
  rw [decide_eq_false ok] at cm
  clear ok bp
  have hR := Rep.init w
  go_enter Tryz.func194, Tryz.ntmps194
  go_wp2_with (first | (refine' aAq hR ?_; clear hR; intro blk w hR) | (refine' aBq hR ?_; clear hR; intro blk w hR) | (refine' aEq hR ?_) | (refine' aFq hR ?_; clear hR; intro w hR) | (go_at_call 211; refine (cm _).mono ?_; rintro e w ⟨rfl, hb⟩; replace hR := hR.call hb; clear hb))
  (refine' bodyPost_ret (xAh Tryz.results194 rfl (hR.loadAll (P := Tryz.prog) (ty := 24) ?hm ?hn)) rfl ⟨?_, hR.below⟩; (case hm => first | with_reducible assumption | repeat (first | exact .head _ | apply mT)); (case hn => first | rfl | simp))
  rw [xBe]
  rfl
theorem ref04_sub (a b m : Nat) (ha : a < B) (hb : b < B) (hm : m < B) (w : World) : Calls Tryz.prog 200 #[num a, num b, num m] w fun e w' =>
  e = .returned (.tuple #[num (if okM a b m then subN a b m else 0), .int .i64 (if okM a b m then 0 else 1)]) ∧ Below w.heap.size w w' := by
 have bp := xEy
 have cm := fun w => xDh a b m ha hb hm w
 by_cases ok : okM a b m
 ·rw [if_pos ok, if_pos ok]
  rw [decide_eq_true ok] at cm
  obtain ⟨ok1, ok2, ok3⟩ := ok
  obtain ⟨x, hx⟩ : ∃ x, (a + B - b) % B = x := ⟨_, rfl⟩
  have lx : x < B := by rw [← hx]; exact Nat.mod_lt _ bp
  obtain ⟨r, hr⟩ : ∃ r, subN a b m = r := ⟨_, rfl⟩
  rw [hr]
  rw [xEi] at hr
  by_cases hc : a < b
  ·have d1 := rs_mod (c := 1) ha hb hx (by rw [xDo, if_pos (by omega)])
   have e1 : x = a + B - b := by rw [← hx, Nat.mod_eq_of_lt (by omega)]
   have e2 : r = a + (m - b) := by rw [← hr, Nat.mod_eq_of_lt (by omega)]
   obtain ⟨c, hcc⟩ : ∃ c : Int, (((x + m) / B : Nat) : Int) = c := ⟨_, rfl⟩
   have s1 := ra_mod (s := r) lx hm (by rw [e1, e2, show a + B - b + m = (a + (m - b)) + B by omega, Nat.add_mod_right, Nat.mod_eq_of_lt (by omega)]) hcc
   clear bp hx lx hr hc e1 e2 hcc ok1 ok2 ok3
   have hR := Rep.init w
   go_enter Tryz.func200, Tryz.ntmps200
   go_wp2_with (first | (refine' aAq hR ?_; clear hR; intro blk w hR) | (refine' aBq hR ?_; clear hR; intro blk w hR) | (refine' aEq hR ?_) | (refine' aFq hR ?_; clear hR; intro w hR) | (go_at_call 211; refine (cm _).mono ?_; rintro e w ⟨rfl, hb⟩; replace hR := hR.call hb; clear hb) | (go_at_call 196; refine (s1 _).mono ?_; rintro e w ⟨rfl, hb⟩; replace hR := hR.call hb; clear hb) | (go_at_call 132; refine (d1 _).mono ?_; rintro e w ⟨rfl, hb⟩; replace hR := hR.call hb; clear hb))
   (refine' bodyPost_ret (xAh Tryz.results200 rfl (hR.loadAll (P := Tryz.prog) (ty := 24) ?hm ?hn)) rfl ⟨?_, hR.below⟩; (case hm => first | with_reducible assumption | repeat (first | exact .head _ | apply mT)); (case hn => first | rfl | simp))
   rfl
  ·have d1 := rs_mod (c := 0) ha hb hx (by rw [xDo, if_neg (by omega)])
   have e2 : r = x := by
    rw [← hr, ← hx, show a + (m - b) = (a - b) + m by omega, Nat.add_mod_right, Nat.mod_eq_of_lt (by omega), show a + B - b = (a - b) + B by omega, Nat.add_mod_right, Nat.mod_eq_of_lt (by omega)]
   rw [e2]
   clear bp hx lx hr hc e2 ok1 ok2 ok3
   have hR := Rep.init w
   go_enter Tryz.func200, Tryz.ntmps200
   go_wp2_with (first | (refine' aAq hR ?_; clear hR; intro blk w hR) | (refine' aBq hR ?_; clear hR; intro blk w hR) | (refine' aEq hR ?_) | (refine' aFq hR ?_; clear hR; intro w hR) | (go_at_call 211; refine (cm _).mono ?_; rintro e w ⟨rfl, hb⟩; replace hR := hR.call hb; clear hb) | (go_at_call 132; refine (d1 _).mono ?_; rintro e w ⟨rfl, hb⟩; replace hR := hR.call hb; clear hb))
   (refine' bodyPost_ret (xAh Tryz.results200 rfl (hR.loadAll (P := Tryz.prog) (ty := 24) ?hm ?hn)) rfl ⟨?_, hR.below⟩; (case hm => first | with_reducible assumption | repeat (first | exact .head _ | apply mT)); (case hn => first | rfl | simp))
   rfl
 ·rw [if_neg ok, if_neg ok]
  rw [decide_eq_false ok] at cm
  clear ok bp
  have hR := Rep.init w
  go_enter Tryz.func200, Tryz.ntmps200
  go_wp2_with (first | (refine' aAq hR ?_; clear hR; intro blk w hR) | (refine' aBq hR ?_; clear hR; intro blk w hR) | (refine' aEq hR ?_) | (refine' aFq hR ?_; clear hR; intro w hR) | (go_at_call 211; refine (cm _).mono ?_; rintro e w ⟨rfl, hb⟩; replace hR := hR.call hb; clear hb))
  (refine' bodyPost_ret (xAh Tryz.results200 rfl (hR.loadAll (P := Tryz.prog) (ty := 24) ?hm ?hn)) rfl ⟨?_, hR.below⟩; (case hm => first | with_reducible assumption | repeat (first | exact .head _ | apply mT)); (case hn => first | rfl | simp))
  rw [xBe]
  rfl
theorem word_pair (a b m : Nat) (ha : a < m) (hb : b < 18446744073709551616) (hm : m < 18446744073709551616) : ∃ h l q : Nat,
  (∀ w, Calls Tryz.prog 232 #[.int .u64 (a : Int), .int .u64 (b : Int)] w fun e w' => e = .returned (.tuple #[.int .u64 (h : Int), .int .u64 (l : Int)]) ∧ Below w.heap.size w w') ∧
  (∀ w, Calls Tryz.prog 229 #[.int .u64 (h : Int), .int .u64 (l : Int), .int .u64 (m : Int)] w fun e w' => e = .returned (.tuple #[.int .u64 (q : Int), .int .u64 ((mulN a b m : Nat) : Int)]) ∧ Below w.heap.size w w') := by
 refine ⟨a * b / 18446744073709551616, a * b % 18446744073709551616, a * b / m, fun w => ?_, fun w => ?_⟩
 ·have m1 := mul64_any a b (by omega) hb w
  rwa [mhi_def, mlo_def] at m1
 ·have lh : a * b / 18446744073709551616 < m := by
   rw [Nat.div_lt_iff_lt_mul (by decide)]
   exact Nat.mul_lt_mul_of_lt_of_le ha (by omega) (by omega)
  have d1 := xGo (a * b / 18446744073709551616) (a * b % 18446744073709551616) m lh hm (Nat.mod_lt _ (by decide)) w
  rw [show a * b / 18446744073709551616 * 18446744073709551616 + a * b % 18446744073709551616 = a * b by rw [Nat.mul_comm]; exact Nat.div_add_mod _ _, ← xCm a b m] at d1
  exact d1
theorem xEp (a b m : Nat) (ha : a < m) (hb : b < m) (hm : m < B) (w : World) : Calls Tryz.prog 213 #[num a, num b, num m] w fun e w' =>
  e = .returned (num (mulN a b m)) ∧ Below w.heap.size w w' := by
 have bp := xEy
 have cw := fun w => xCj m hm w
 have lr : mulN a b m < m := by rw [xCm]; exact Nat.mod_lt _ (by omega)
 by_cases hs : m < 18446744073709551616
 ·rw [decide_eq_true hs] at cw
  have ea : wd a 0 = (a : Int) := by rw [xFm]; unfold w64; omega
  have eb : wd b 0 = (b : Int) := by rw [xFm]; unfold w64; omega
  have em : wd m 0 = (m : Int) := by rw [xFm]; unfold w64; omega
  obtain ⟨h, l, q, m1, d1⟩ := word_pair a b m ha (by omega) hs
  rw [← ea, ← eb] at m1
  rw [← em] at d1
  have o1 := fun w => xCw (mulN a b m) (by omega) w
  generalize mulN a b m = r at *
  clear lr hs ea eb em bp
  have hR := Rep.init w
  go_enter Tryz.func213, Tryz.ntmps213
  go_wp2_with (first | (refine' aAq hR ?_; clear hR; intro blk w hR) | (refine' aBq hR ?_; clear hR; intro blk w hR) | (refine' aEq hR ?_) | (refine' aGq hR ?_) | (refine' aFq hR ?_; clear hR; intro w hR) | (go_at_call 195; refine (cw _).mono ?_; rintro e w ⟨rfl, hb⟩; replace hR := hR.call hb; clear hb) | (go_at_call 232; refine (m1 _).mono ?_; rintro e w ⟨rfl, hb⟩; replace hR := hR.call hb; clear hb) | (go_at_call 229; refine (d1 _).mono ?_; rintro e w ⟨rfl, hb⟩; replace hR := hR.call hb; clear hb) | (go_at_call 131; refine (o1 _).mono ?_; rintro e w ⟨rfl, hb⟩; replace hR := hR.call hb; clear hb))
  (refine' bodyPost_ret (xAq Tryz.results213 rfl (hR.loadAll (P := Tryz.prog) (ty := 24) ?hm ?hn)) rfl ⟨?_, hR.below⟩; (case hm => first | with_reducible assumption | repeat (first | exact .head _ | apply mT)); (case hn => first | rfl | simp))
  rfl
 ·rw [decide_eq_false hs] at cw
  obtain ⟨r, hr⟩ : ∃ r, mulN a b m = r := ⟨_, rfl⟩
  rw [hr]
  rw [xCm] at hr
  obtain ⟨l, hll⟩ : ∃ l, a * b % B = l := ⟨_, rfl⟩
  obtain ⟨h, hh⟩ : ∃ h, a * b / B = h := ⟨_, rfl⟩
  have ll : l < B := by rw [← hll]; exact Nat.mod_lt _ bp
  have lh : h < B := by
   rw [← hh, Nat.div_lt_iff_lt_mul bp]
   exact Nat.mul_lt_mul_of_lt_of_le (by omega) (by omega) (by omega)
  have m1 := rm_lit (by omega : a < B) (by omega : b < B) hll hh
  have w1 := rw_lit (r := r) (e := 0) ll lh hm (by
   have e := Nat.div_add_mod (a * b) B
   rw [hll, hh, Nat.mul_comm] at e
   rw [xFn, if_neg (by omega), e, hr]) (by rw [if_neg (by omega)])
  clear hr lr hs hll hh ll lh bp
  have hR := Rep.init w
  go_enter Tryz.func213, Tryz.ntmps213
  go_wp2_with (first | (refine' aAq hR ?_; clear hR; intro blk w hR) | (refine' aBq hR ?_; clear hR; intro blk w hR) | (refine' aEq hR ?_) | (refine' aFq hR ?_; clear hR; intro w hR) | (go_at_call 195; refine (cw _).mono ?_; rintro e w ⟨rfl, hb⟩; replace hR := hR.call hb; clear hb) | (go_at_call 233; refine (m1 _).mono ?_; rintro e w ⟨rfl, hb⟩; replace hR := hR.call hb; clear hb) | (go_at_call 234; refine (w1 _).mono ?_; rintro e w ⟨rfl, hb⟩; replace hR := hR.call hb; clear hb))
  (refine' bodyPost_ret (xAq Tryz.results213 rfl (hR.loadAll (P := Tryz.prog) (ty := 24) ?hm ?hn)) rfl ⟨?_, hR.below⟩; (case hm => first | with_reducible assumption | repeat (first | exact .head _ | apply mT)); (case hn => first | rfl | simp))
  rfl
theorem ref04_mul (a b m : Nat) (ha : a < B) (hb : b < B) (hm : m < B) (w : World) : Calls Tryz.prog 180 #[num a, num b, num m] w fun e w' =>
  e = .returned (.tuple #[num (if okM a b m then mulN a b m else 0), .int .i64 (if okM a b m then 0 else 1)]) ∧ Below w.heap.size w w' := by
 have cm := fun w => xDh a b m ha hb hm w
 by_cases ok : okM a b m
 ·rw [if_pos ok, if_pos ok]
  rw [decide_eq_true ok] at cm
  have ct := fun w => xEp a b m ok.2.1 ok.2.2 hm w
  generalize mulN a b m = r at *
  clear ok
  have hR := Rep.init w
  go_enter Tryz.func180, Tryz.ntmps180
  go_wp2_with (first | (refine' aAq hR ?_; clear hR; intro blk w hR) | (refine' aBq hR ?_; clear hR; intro blk w hR) | (refine' aEq hR ?_) | (refine' aFq hR ?_; clear hR; intro w hR) | (go_at_call 211; refine (cm _).mono ?_; rintro e w ⟨rfl, hb⟩; replace hR := hR.call hb; clear hb) | (go_at_call 213; refine (ct _).mono ?_; rintro e w ⟨rfl, hb⟩; replace hR := hR.call hb; clear hb))
  (refine' bodyPost_ret (xAh Tryz.results180 rfl (hR.loadAll (P := Tryz.prog) (ty := 24) ?hm ?hn)) rfl ⟨?_, hR.below⟩; (case hm => first | with_reducible assumption | repeat (first | exact .head _ | apply mT)); (case hn => first | rfl | simp))
  rfl
 ·rw [if_neg ok, if_neg ok]
  rw [decide_eq_false ok] at cm
  clear ok
  have hR := Rep.init w
  go_enter Tryz.func180, Tryz.ntmps180
  go_wp2_with (first | (refine' aAq hR ?_; clear hR; intro blk w hR) | (refine' aBq hR ?_; clear hR; intro blk w hR) | (refine' aEq hR ?_) | (refine' aFq hR ?_; clear hR; intro w hR) | (go_at_call 211; refine (cm _).mono ?_; rintro e w ⟨rfl, hb⟩; replace hR := hR.call hb; clear hb))
  (refine' bodyPost_ret (xAh Tryz.results180 rfl (hR.loadAll (P := Tryz.prog) (ty := 24) ?hm ?hn)) rfl ⟨?_, hR.below⟩; (case hm => first | with_reducible assumption | repeat (first | exact .head _ | apply mT)); (case hn => first | rfl | simp))
  rw [xBe]
  rfl
end
section
attribute [local irreducible] Calls
theorem refWordPow_any (a n m : Nat) (ha : a < m) (hn : n < B) (h1 : 1 < m) (hs : m < 18446744073709551616) (w : World) : Calls Tryz.prog 221 #[.int .u64 (a : Int), num n, .int .u64 (m : Int)] w fun e w' =>
  e = .returned (.int .u64 ((powN a n m : Nat) : Int)) ∧ Below w.heap.size w w' := by
 have cb := fun w => xJl n hn w
 have hn1 : blen n ≤ 256 := (xBg _ _).mpr (by rw [B_eq] at hn; exact hn)
 have hn2 := xFa n
 generalize blen n = N at *
 have em1 : ((m : Int) == 0) = false := by
  simp
  omega
 have em2 : ¬ (m : Int) = 0 := by omega
 have em3 : (1 : Int).tmod (m : Int) = 1 := by rw [Int.tmod_eq_emod_of_nonneg (by decide)]; exact Int.emod_eq_of_lt (by decide) (by omega)
 have kb : (N : Int) ≤ 256 := by omega
 have kN : IntKind.i64.wrap ((N : Int) - 1) = (N : Int) - 1 := by rw [IntKind.wrap_i64]; omega
 have hR := Rep.init w
 go_enter Tryz.func221, Tryz.ntmps221
 go_wp2_with (first | (refine' aAq hR ?_; clear hR; intro blk w hR) | (refine' aEq hR ?_) | (go_at_call 222; refine (cb _).mono ?_; rintro e w ⟨rfl, hb⟩; replace hR := hR.call hb; clear hb))
 clear em1 em2 em3
 refine' xBm (false :: false :: false :: false :: false :: false :: false :: false :: false :: true :: true :: false :: false :: false :: false :: false :: true :: true :: true :: true :: true :: true :: true :: true :: true :: true :: true :: true :: true :: true :: true :: true :: true :: true :: true :: true :: true :: true :: true :: true :: true :: true :: true :: true :: true :: true :: true :: true :: true :: true :: true :: true :: true :: true :: true :: false :: []) (fun j l => (l.set 7 (.int .u64 ((pR a n m j : Nat) : Int))).set 8 (.int .i64 ((j : Int) - 1))) (fun j => [(blk, .cells (nl n).toArray 24)]) N ?h0 ?hR ?hs ?he
 case hR => exact hR
 case h0 =>
  simp only [pR_top h1 hn2]
  exact xAf rfl rfl rfl
 case hs =>
  clear hR
  intro j tm w hj ht hR K hK
  repeat (first | (obtain ⟨x, tm', e, ht'⟩ := xAc ht; clear ht; subst e; have ht := ht'; clear ht') | (obtain ⟨tm', e, ht'⟩ := xAa ht; clear ht; subst e; have ht := ht'; clear ht'))
  obtain rfl := xAe ht
  clear ht
  obtain ⟨T, hT, hbit⟩ := xHu a n m j
  have hP := pR_lt h1 a n (j + 1)
  have lT : T < m := by rw [← hT, xCm]; exact Nat.mod_lt _ (by omega)
  obtain ⟨h, l, q, m1, d1⟩ := word_pair (pR a n m (j + 1)) (pR a n m (j + 1)) m hP (by omega) hs
  rw [hT] at d1
  generalize pR a n m (j + 1) = R at *
  have e1 : ((j + 1 : Nat) : Int) - 1 = (j : Int) := by omega
  rw [e1]
  have hbw := bit_plain n (j : Int) (by omega)
  rw [xDj n j (by omega)] at hbw
  have hv := nl_at n (j / 64) (by omega)
  have l0 := xDz n (j / 64)
  have l1 := xEk n (j / 64)
  obtain ⟨x, hx⟩ : ∃ x, j / 64 = x := ⟨_, rfl⟩
  obtain ⟨y, hy⟩ : ∃ y, j % 64 = y := ⟨_, rfl⟩
  have e1 : (j : Int) / 64 = (x : Int) := by omega
  have e4 : (j : Int) % 64 = (y : Int) := by omega
  rw [e1, e4, Int.toNat_natCast, Int.toNat_natCast] at hbw
  rw [hx] at hv l0 l1
  have e2 : IntKind.i64.wrap (x : Int) = (x : Int) := by rw [IntKind.wrap_i64]; omega
  have e3 : (j : Int).tmod 64 = (y : Int) := by rw [Int.tmod_eq_emod_of_nonneg (by omega)]; omega
  have e5 : IntKind.i64.wrap (y : Int) = (y : Int) := by rw [IntKind.wrap_i64]; omega
  have e6 : (x : Int) < 4 := by omega
  have e7 : (y : Int) < 64 := by omega
  have e8 : 0 ≤ (x : Int) := by omega
  have e9 : 0 ≤ (y : Int) := by omega
  have e10 : x < 4 := by omega
  have kj0 : 0 ≤ (j : Int) := by omega
  have kj1 : (j : Int) < 256 := by omega
  clear hx hy hj hn1 hn2 kN kb cb
  rcases hbit with ⟨hb, hS⟩ | ⟨hb, hS⟩
  ·rw [hb] at hbw
   rw [hS] at hK
   clear hb hS hT lT hP
   go_wp2_with (first | (refine' aGq hR ?_) | (go_at_call 232; refine (m1 _).mono ?_; rintro e w ⟨rfl, hb⟩; replace hR := hR.call hb; clear hb) | (go_at_call 229; refine (d1 _).mono ?_; rintro e w ⟨rfl, hb⟩; replace hR := hR.call hb; clear hb))
   exact hK.out _ _ (xAf rfl rfl rfl) hR
  ·rw [hb] at hbw
   obtain ⟨h', l', q', m2, d2⟩ := word_pair T a m lT (by omega) hs
   rw [hS] at d2
   clear hb hS hT lT hP
   go_wp2_with (first | (refine' aGq hR ?_) | (go_at_call 232; refine (m1 _).mono ?_; rintro e w ⟨rfl, hb⟩; replace hR := hR.call hb; clear hb) | (go_at_call 229; refine (d1 _).mono ?_; rintro e w ⟨rfl, hb⟩; replace hR := hR.call hb; clear hb) | (go_at_call 232; refine (m2 _).mono ?_; rintro e w ⟨rfl, hb⟩; replace hR := hR.call hb; clear hb) | (go_at_call 229; refine (d2 _).mono ?_; rintro e w ⟨rfl, hb⟩; replace hR := hR.call hb; clear hb))
   exact hK.out _ _ (xAf rfl rfl rfl) hR
 case he =>
  clear hR
  intro tm w ht hR K
  rw [pR_zero] at ht
  simp only [Int.natCast_zero, Int.zero_sub] at ht
  repeat (first | (obtain ⟨x, tm', e, ht'⟩ := xAc ht; clear ht; subst e; have ht := ht'; clear ht') | (obtain ⟨tm', e, ht'⟩ := xAa ht; clear ht; subst e; have ht := ht'; clear ht'))
  obtain rfl := xAe ht
  clear ht
  go_wp2_with (fail)
  go_ret
  exact ⟨rfl, hR.below⟩
theorem refExp_long (a n m : Nat) (ok : okE a m) (hn : n < B) (hm : m < B) (hs : ¬ m < 18446744073709551616) (w : World) : Calls Tryz.prog 187 #[num a, num n, num m] w fun e w' =>
  e = .returned (.tuple #[num (powN a n m), .int .i64 0]) ∧ Below w.heap.size w w' := by
 obtain ⟨h1, ha⟩ := ok
 have cm := fun w => xDh a a m (by omega) (by omega) hm w
 rw [decide_eq_true (show okM a a m from ⟨h1, ha, ha⟩)] at cm
 have cw := fun w => xCj m hm w
 rw [decide_eq_false hs] at cw
 obtain ⟨n1, hn1⟩ : ∃ n, n = 1 := ⟨_, rfl⟩
 have o1 : ∀ w, Calls Tryz.prog 131 #[.int .u64 1] w fun e w' => e = .returned (num n1) ∧ Below w.heap.size w w' := fun w => by
  rw [hn1]; exact xCw 1 (by decide) w
 have cb := fun w => xJl n hn w
 have hn1' : blen n ≤ 256 := (xBg _ _).mpr (by rw [B_eq] at hn; exact hn)
 have hn2 := xFa n
 generalize blen n = N at *
 have e0 : pR a n m N = n1 := by rw [pR_top h1 hn2, hn1]
 have kb : (N : Int) ≤ 256 := by omega
 have kN : IntKind.i64.wrap ((N : Int) - 1) = (N : Int) - 1 := by rw [IntKind.wrap_i64]; omega
 replace hn1 := Held.mk hn1
 replace e0 := Held.mk e0
 have hR := Rep.init w
 go_enter Tryz.func187, Tryz.ntmps187
 go_wp2_with (first | (refine' aAq hR ?_; clear hR; intro blk w hR) | (refine' aBq hR ?_; clear hR; intro blk w hR) | (refine' aEq hR ?_) | (refine' aFq hR ?_; clear hR; intro w hR) | (go_at_call 222; refine (cb _).mono ?_; rintro e w ⟨rfl, hb⟩; replace hR := hR.call hb; clear hb) | (go_at_call 211; refine (cm _).mono ?_; rintro e w ⟨rfl, hb⟩; replace hR := hR.call hb; clear hb) | (go_at_call 195; refine (cw _).mono ?_; rintro e w ⟨rfl, hb⟩; replace hR := hR.call hb; clear hb) | (go_at_call 131; refine (o1 _).mono ?_; rintro e w ⟨rfl, hb⟩; replace hR := hR.call hb; clear hb))
 clear cm cw o1 cb
 (first | (rename_i b6; change Nat at b6) | (rename_i b6 _; change Nat at b6) | (rename_i b6 _ _; change Nat at b6) | (rename_i b6 _ _ _; change Nat at b6) | (rename_i b6 _ _ _ _; change Nat at b6) | (rename_i b6 _ _ _ _ _; change Nat at b6) | (rename_i b6 _ _ _ _ _ _; change Nat at b6) | (rename_i b6 _ _ _ _ _ _ _; change Nat at b6) | (rename_i b6 _ _ _ _ _ _ _ _; change Nat at b6) | (rename_i b6 _ _ _ _ _ _ _ _ _; change Nat at b6) | (rename_i b6 _ _ _ _ _ _ _ _ _ _; change Nat at b6) | (rename_i b6 _ _ _ _ _ _ _ _ _ _ _; change Nat at b6) | (rename_i b6 _ _ _ _ _ _ _ _ _ _ _ _; change Nat at b6) | (rename_i b6 _ _ _ _ _ _ _ _ _ _ _ _ _; change Nat at b6))
 (first | (rename_i b5; change Nat at b5) | (rename_i b5 _; change Nat at b5) | (rename_i b5 _ _; change Nat at b5) | (rename_i b5 _ _ _; change Nat at b5) | (rename_i b5 _ _ _ _; change Nat at b5) | (rename_i b5 _ _ _ _ _; change Nat at b5) | (rename_i b5 _ _ _ _ _ _; change Nat at b5) | (rename_i b5 _ _ _ _ _ _ _; change Nat at b5) | (rename_i b5 _ _ _ _ _ _ _ _; change Nat at b5) | (rename_i b5 _ _ _ _ _ _ _ _ _; change Nat at b5) | (rename_i b5 _ _ _ _ _ _ _ _ _ _; change Nat at b5) | (rename_i b5 _ _ _ _ _ _ _ _ _ _ _; change Nat at b5) | (rename_i b5 _ _ _ _ _ _ _ _ _ _ _ _; change Nat at b5) | (rename_i b5 _ _ _ _ _ _ _ _ _ _ _ _ _; change Nat at b5))
 (first | (rename_i b4; change Nat at b4) | (rename_i b4 _; change Nat at b4) | (rename_i b4 _ _; change Nat at b4) | (rename_i b4 _ _ _; change Nat at b4) | (rename_i b4 _ _ _ _; change Nat at b4) | (rename_i b4 _ _ _ _ _; change Nat at b4) | (rename_i b4 _ _ _ _ _ _; change Nat at b4) | (rename_i b4 _ _ _ _ _ _ _; change Nat at b4) | (rename_i b4 _ _ _ _ _ _ _ _; change Nat at b4) | (rename_i b4 _ _ _ _ _ _ _ _ _; change Nat at b4) | (rename_i b4 _ _ _ _ _ _ _ _ _ _; change Nat at b4) | (rename_i b4 _ _ _ _ _ _ _ _ _ _ _; change Nat at b4) | (rename_i b4 _ _ _ _ _ _ _ _ _ _ _ _; change Nat at b4) | (rename_i b4 _ _ _ _ _ _ _ _ _ _ _ _ _; change Nat at b4))
 (first | (rename_i b3; change Nat at b3) | (rename_i b3 _; change Nat at b3) | (rename_i b3 _ _; change Nat at b3) | (rename_i b3 _ _ _; change Nat at b3) | (rename_i b3 _ _ _ _; change Nat at b3) | (rename_i b3 _ _ _ _ _; change Nat at b3) | (rename_i b3 _ _ _ _ _ _; change Nat at b3) | (rename_i b3 _ _ _ _ _ _ _; change Nat at b3) | (rename_i b3 _ _ _ _ _ _ _ _; change Nat at b3) | (rename_i b3 _ _ _ _ _ _ _ _ _; change Nat at b3) | (rename_i b3 _ _ _ _ _ _ _ _ _ _; change Nat at b3) | (rename_i b3 _ _ _ _ _ _ _ _ _ _ _; change Nat at b3) | (rename_i b3 _ _ _ _ _ _ _ _ _ _ _ _; change Nat at b3) | (rename_i b3 _ _ _ _ _ _ _ _ _ _ _ _ _; change Nat at b3))
 refine' xBm (false :: false :: false :: false :: false :: false :: false :: false :: false :: false :: false :: false :: false :: false :: false :: false :: false :: false :: false :: false :: false :: false :: false :: false :: false :: false :: false :: false :: false :: true :: true :: true :: true :: true :: true :: true :: true :: true :: true :: true :: true :: true :: true :: true :: true :: false :: []) (fun j l => l.set 9 (.int .i64 ((j : Int) - 1))) (fun j => [(blk, .cells (nl (pR a n m j)).toArray 24), (b6, .cells (nl 0).toArray 24), (b5, .cells (nl m).toArray 24), (b4, .cells (nl n).toArray 24), (b3, .cells (nl a).toArray 24)]) N ?h0 ?hR ?hs ?he
 case hR =>
  show Rep _ _ ((_, .cells (nl (pR a n m N)).toArray _) :: _) _
  rw [e0.out, ← xDf]
  exact hR
 case h0 => exact xAf rfl rfl rfl
 case hs =>
  clear hR
  intro j tm w hj ht hR K hK
  repeat (first | (obtain ⟨x, tm', e, ht'⟩ := xAc ht; clear ht; subst e; have ht := ht'; clear ht') | (obtain ⟨tm', e, ht'⟩ := xAa ht; clear ht; subst e; have ht := ht'; clear ht'))
  obtain rfl := xAe ht
  clear ht
  obtain ⟨T, hT, hbit⟩ := xHu a n m j
  have hP := pR_lt h1 a n (j + 1)
  have lT : T < m := by rw [← hT, xCm]; exact Nat.mod_lt _ (by omega)
  have t1 := fun w => xEp _ _ m hP hP hm w
  rw [hT] at t1
  generalize pR a n m (j + 1) = R at *
  have e1 : ((j + 1 : Nat) : Int) - 1 = (j : Int) := by omega
  rw [e1]
  have cbit := fun w => xEl n (j : Int) hn w
  rw [xDj n j (by omega)] at cbit
  have kj0 : 0 ≤ (j : Int) := by omega
  have kj1 : (j : Int) < 256 := by omega
  clear hj hn1' hn2 kN kb
  rcases hbit with ⟨hb, hS⟩ | ⟨hb, hS⟩
  ·rw [hb] at cbit
   rw [hS] at hK
   clear hb hS hT lT hP
   go_wp2_with (first | (refine' aEq hR ?_) | (refine' aFq hR ?_; clear hR; intro w hR) | (go_at_call 213; refine (t1 _).mono ?_; rintro e w ⟨rfl, hb⟩; replace hR := hR.call hb; clear hb) | (go_at_call 197; refine (cbit _).mono ?_; rintro e w ⟨rfl, hb⟩; replace hR := hR.call hb; clear hb))
   exact hK.out _ _ (xAf rfl rfl rfl) hR
  ·rw [hb] at cbit
   have t2 := fun w => xEp T a m lT ha hm w
   rw [hS] at t2
   clear hb hS hT lT hP
   go_wp2_with (first | (refine' aEq hR ?_) | (refine' aFq hR ?_; clear hR; intro w hR) | (go_at_call 213; refine (t1 _).mono ?_; rintro e w ⟨rfl, hb⟩; replace hR := hR.call hb; clear hb) | (go_at_call 197; refine (cbit _).mono ?_; rintro e w ⟨rfl, hb⟩; replace hR := hR.call hb; clear hb) | (go_at_call 213; refine (t2 _).mono ?_; rintro e w ⟨rfl, hb⟩; replace hR := hR.call hb; clear hb))
   exact hK.out _ _ (xAf rfl rfl rfl) hR
 case he =>
  clear hR
  intro tm w ht hR K
  simp only [Int.natCast_zero, Int.zero_sub] at ht
  repeat (first | (obtain ⟨x, tm', e, ht'⟩ := xAc ht; clear ht; subst e; have ht := ht'; clear ht') | (obtain ⟨tm', e, ht'⟩ := xAa ht; clear ht; subst e; have ht := ht'; clear ht'))
  obtain rfl := xAe ht
  clear ht
  rw [pR_zero] at hR
  go_wp2_with (first | (refine' aEq hR ?_) | (refine' aFq hR ?_; clear hR; intro w hR))
  (refine' bodyPost_ret (xAh Tryz.results187 rfl (hR.loadAll (P := Tryz.prog) (ty := 24) ?hm ?hn)) rfl ⟨?_, hR.below⟩; (case hm => first | with_reducible assumption | repeat (first | exact .head _ | apply mT)); (case hn => first | rfl | simp))
  rfl
theorem ref04_exp (a n m : Nat) (ha : a < B) (hn : n < B) (hm : m < B) (w : World) : Calls Tryz.prog 187 #[num a, num n, num m] w fun e w' =>
  e = .returned (.tuple #[num (if okE a m then powN a n m else 0), .int .i64 (if okE a m then 0 else 1)]) ∧ Below w.heap.size w w' := by
 by_cases ok : okE a m
 ·rw [if_pos ok, if_pos ok]
  by_cases hs : m < 18446744073709551616
  ·obtain ⟨h1, ha⟩ := ok
   have cm := fun w => xDh a a m (by omega) (by omega) hm w
   rw [decide_eq_true (show okM a a m from ⟨h1, ha, ha⟩)] at cm
   have cw := fun w => xCj m hm w
   rw [decide_eq_true hs] at cw
   have cp := fun w => refWordPow_any a n m ha hn h1 hs w
   have ea : wd a 0 = (a : Int) := by rw [xFm]; unfold w64; omega
   have em : wd m 0 = (m : Int) := by rw [xFm]; unfold w64; omega
   rw [← ea, ← em] at cp
   have o1 := fun w => xCw (powN a n m) (by rw [powN_def]; exact Nat.lt_trans (Nat.mod_lt _ (by omega)) hs) w
   generalize powN a n m = r at *
   clear h1 ha hs ea em
   have hR := Rep.init w
   go_enter Tryz.func187, Tryz.ntmps187
   go_wp2_with (first | (refine' aAq hR ?_; clear hR; intro blk w hR) | (refine' aBq hR ?_; clear hR; intro blk w hR) | (refine' aEq hR ?_) | (refine' aGq hR ?_) | (refine' aFq hR ?_; clear hR; intro w hR) | (go_at_call 211; refine (cm _).mono ?_; rintro e w ⟨rfl, hb⟩; replace hR := hR.call hb; clear hb) | (go_at_call 195; refine (cw _).mono ?_; rintro e w ⟨rfl, hb⟩; replace hR := hR.call hb; clear hb) | (go_at_call 221; refine (cp _).mono ?_; rintro e w ⟨rfl, hb⟩; replace hR := hR.call hb; clear hb) | (go_at_call 131; refine (o1 _).mono ?_; rintro e w ⟨rfl, hb⟩; replace hR := hR.call hb; clear hb))
   (refine' bodyPost_ret (xAh Tryz.results187 rfl (hR.loadAll (P := Tryz.prog) (ty := 24) ?hm ?hn)) rfl ⟨?_, hR.below⟩; (case hm => first | with_reducible assumption | repeat (first | exact .head _ | apply mT)); (case hn => first | rfl | simp))
   rfl
  ·exact refExp_long a n m ok hn hm hs w
 ·rw [if_neg ok, if_neg ok]
  have cm := fun w => xDh a a m ha ha hm w
  rw [decide_eq_false (fun h : okM a a m => ok ⟨h.1, h.2.1⟩)] at cm
  clear ok
  have hR := Rep.init w
  go_enter Tryz.func187, Tryz.ntmps187
  go_wp2_with (first | (refine' aAq hR ?_; clear hR; intro blk w hR) | (refine' aBq hR ?_; clear hR; intro blk w hR) | (refine' aEq hR ?_) | (refine' aFq hR ?_; clear hR; intro w hR) | (go_at_call 211; refine (cm _).mono ?_; rintro e w ⟨rfl, hb⟩; replace hR := hR.call hb; clear hb))
  (refine' bodyPost_ret (xAh Tryz.results187 rfl (hR.loadAll (P := Tryz.prog) (ty := 24) ?hm ?hn)) rfl ⟨?_, hR.below⟩; (case hm => first | with_reducible assumption | repeat (first | exact .head _ | apply mT)); (case hn => first | rfl | simp))
  rw [xBe]
  rfl
end
end Go.Proofs.YtaaahfjpnggkbaaGreatDoor
