import Derived.Test.YtaaahfjpnggkbaaGreatDoorHR5
import Derived.Test.YtaaahfjpnggkbaaGreatDoorHN
import Derived.Test.YtaaahfjpnggkbaaGreatDoorHZ
import Derived.Test.YtaaahfjpnggkbaaGreatDoorHR
import Derived.Test.YtaaahfjpnggkbaaGreatDoorHP
import Derived.Test.YtaaahfjpnggkbaaGreatDoorHQ
set_option linter.unusedSimpArgs false
set_option linter.unusedVariables false
set_option maxRecDepth 100000
set_option maxHeartbeats 20000000
namespace Go.Proofs.YtaaahfjpnggkbaaGreatDoor
open Go.RowKit
section
attribute [local irreducible] Calls
theorem rone_any (n1 : Nat) (h1 : n1 = 1) (w : World) : Calls Tryz.prog 186 #[] w fun e w' => e = .returned (num n1) ∧ Below w.heap.size w w' := by
 have o1 : ∀ w, Calls Tryz.prog 131 #[.int .u64 1] w fun e w' => e = .returned (num n1) ∧ Below w.heap.size w w' := fun w => by
  rw [h1]; exact xCw 1 (by decide) w
 have hR := Rep.init w
 go_enter Tryz.func186, Tryz.ntmps186
 go_wp2_with (first | (refine' aBq hR ?_; clear hR; intro blk w hR) | (refine' aFq hR ?_; clear hR; intro w hR) | (go_at_call 131; refine (o1 _).mono ?_; rintro e w ⟨rfl, hb⟩; replace hR := hR.call hb; clear hb))
 (refine' bodyPost_ret (xAq Tryz.results186 rfl (hR.loadAll (P := Tryz.prog) (ty := 24) ?hm ?hn)) rfl ⟨?_, hR.below⟩; (case hm => first | with_reducible assumption | repeat (first | exact .head _ | apply mT)); (case hn => first | rfl | simp))
 rw [h1]
section
variable {p q g h a b r : Nat} {e : Int} {s : Bool}
theorem xKd (hp : p < B) (ha : a < B) (hs : decide (mayG p a) = s) (w : World) : Calls Tryz.prog 112 #[grp p q g h, num a] w fun e' w' =>
  e' = .returned (.bool s) ∧ Below w.heap.size w w' := by
 have tp := gl_p p q g h
 obtain ⟨n1, h1⟩ : ∃ n, n = 1 := ⟨_, rfl⟩
 have o1 := fun w => rone_any n1 h1 w
 have L1 : n1 < B := lt_B (by omega)
 have c1 := rc_lit hp L1 rfl
 have c2 := rc_lit ha hp rfl
 have k1 := cmpN_gt p n1
 have k2 := cmpN_lt a p
 have hc : (decide (0 < cmpN p n1) = false ∧ s = false) ∨ (decide (0 < cmpN p n1) = true ∧ eqN a 0 = true ∧ s = false) ∨ (decide (0 < cmpN p n1) = true ∧ eqN a 0 = false ∧ decide (cmpN a p < 0) = false ∧ s = false) ∨ (decide (0 < cmpN p n1) = true ∧ eqN a 0 = false ∧ decide (cmpN a p < 0) = true ∧ s = true) := by
  by_cases x1 : 1 < p
  ·by_cases x2 : a = 0
   ·exact .inr (.inl ⟨decide_eq_true (k1.mpr (by omega)), xFw (by omega), by rw [← hs]; exact decide_eq_false fun h => h.2.1 x2⟩)
   ·by_cases x3 : a < p
    ·exact .inr (.inr (.inr ⟨decide_eq_true (k1.mpr (by omega)), xDq ha xEy (by omega), decide_eq_true (k2.mpr x3), by rw [← hs]; exact decide_eq_true ⟨x1, x2, x3⟩⟩))
    ·exact .inr (.inr (.inl ⟨decide_eq_true (k1.mpr (by omega)), xDq ha xEy (by omega), decide_eq_false (fun h => x3 (k2.mp h)), by rw [← hs]; exact decide_eq_false fun h => x3 h.2.2⟩))
  ·exact .inl ⟨decide_eq_false (fun h => x1 (by have := k1.mp h; omega)), by rw [← hs]; exact decide_eq_false fun h => x1 h.1⟩
 generalize cmpN p n1 = x1 at *
 generalize cmpN a p = x2 at *
 clear hs k1 k2 h1 L1
 have hR := Rep.init w
 rcases hc with ⟨j1, rfl⟩ | ⟨j1, j2, rfl⟩ | ⟨j1, j2, j3, rfl⟩ | ⟨j1, j2, j3, rfl⟩
 all_goals
  go_enter Tryz.func112, Tryz.ntmps112
  go_wp2_with (refine' aAq hR ?_; clear hR; intro blk w hR)
  refine xAd hR [0, 0, 0, 0, 0, 0, 0, 0, 0, 0, 0, 0, 0, 0, 0, 0, 0, 2] [] xBd (by kernel_rfl) rfl rfl (fun K hK => ?_)
  clear hR
  repeat ((first | (refine xAp ?_) | (refine' xAj (by decide) rfl (.inl rfl) rfl ?ha ?_) | (refine' aIq ?ha ?_) | (refine' aLq ?ha ?_) | ((first | refine' xAm (by decide) rfl rfl rfl rfl (fun w => ?hq) ?ha ?_ | refine' xAl (by decide) rfl rfl rfl (fun w => ?hq) ?ha ?_ | refine' xCr (by decide) rfl rfl (fun w => ?hq) ?ha ?_); (case hq => go_simp; try rfl)) | (refine' xBh (by decide) rfl rfl rfl rfl ?ha ?_) | (refine' xCe (by decide) rfl ?ha ?_) | (refine' xAk rfl rfl rfl (xAi Tryz.func186 (by kernel_rfl) (by kernel_rfl) _) (fun w => o1 w) ?ha ?_) | (refine' xAk rfl rfl rfl (xAi Tryz.func185 (by kernel_rfl) (by kernel_rfl) _) (fun w => c1 w) ?ha ?_) | (refine' xAk rfl rfl rfl (xAi Tryz.func185 (by kernel_rfl) (by kernel_rfl) _) (fun w => c2 w) ?ha ?_)); try (case ha => simp only [kP, kQ, kA, kB]; try rfl))
  refine xAo (hK _ _ ?_)
  clear hK K
  refine xAr (fun Q hQ => ?_)
  try simp only [List.nil_append, List.cons_append]
  repeat ((refine' xBf rfl (.inr rfl) rfl ?hk ?ha ?_); (case hk => intro p hp; first | exact absurd hp List.not_mem_nil | (obtain rfl := List.mem_singleton.1 hp; repeat (first | exact List.Mem.head _ | apply mT))); (case ha => simp only [kP, kQ, kA, kB]; try rfl))
  refine xAs (fun w hR => hQ _ _ ?_)
  clear hQ Q
  go_wp2_with (fail)
  go_ret
  exact ⟨rfl, hR.below⟩
end
end
section
attribute [local irreducible] Calls
noncomputable def zsP (f k : Nat → Nat) (j : Nat) : Pair := by
 classical exact if h : f j < B ∧ k j < B then ⟨(f j, k j), h.1, h.2⟩ else ⟨(0, 0), xEy, xEy⟩
theorem zsP_is {f k : Nat → Nat} {j : Nat} (h1 : f j < B) (h2 : k j < B) : (zsP f k j).1 = (f j, k j) := by
 unfold zsP
 rw [dif_pos ⟨h1, h2⟩]
def prodRes (p n m : Nat) (zs : Nat → Pair) (r : Nat) (e : Int) : Prop := ((1 < p ∧ n = m ∧ xGf p (up zs n)) ∧ r = xHt p (up zs n) ∧ e = 0) ∨ (¬ (1 < p ∧ n = m ∧ xGf p (up zs n)) ∧ r = 0 ∧ e = 1)
theorem prodRes_ex (p n m : Nat) (zs : Nat → Pair) : ∃ r e, prodRes p n m zs r e := by
 classical
 by_cases h : 1 < p ∧ n = m ∧ xGf p (up zs n)
 ·exact ⟨_, _, .inl ⟨h, rfl, rfl⟩⟩
 ·exact ⟨_, _, .inr ⟨h, rfl, rfl⟩⟩
section
variable {p q g h : Nat} {B0 : Nat} {w0 w : World} {L : List (Nat × Obj)} {pa pn : Option Addr} {n m ca cn : Nat} {f k : Nat → Nat}
theorem xKk.to {a : Option Addr} {f f' : Nat → Nat} (h : xKk w a n f) (e : ∀ j, j < n → f' j = f j) : xKk w a n f' := ⟨fun hp => by
 obtain ⟨b, o, q1, q2, q3⟩ := h.at' hp
 exact ⟨b, o, q1, q2, fun j hj => by rw [e j hj]; exact q3 j hj⟩⟩
theorem gprod_any (hp : p < B) (hq : q < B) (hA : NAt B0 w0 L pa n ca f) (hN : NAt B0 w0 L pn m cn k) (h1 : n ≤ 1000000) (h2 : m ≤ 1000000) {r : Nat} {e : Int} (hr : prodRes p n m (zsP f k) r e) (hR : Rep B0 w0 L w) :
  Calls Tryz.prog 111 #[grp p q g h, .slice pa n ca, .slice pn m cn] w fun e' w' => e' = .returned (.tuple #[num r, .int .i64 e]) ∧ Below w.heap.size w w' := by
 by_cases hb : 1 < p ∧ n = m
 ·obtain ⟨hb1, rfl⟩ := hb
  refine (product_go hp hq hb1 pa pn n ca cn (zsP f k) h1 w ((hA.nums hR).to fun j hj => by rw [zsP_is (hA.lt j hj) (hN.lt j hj)]) ((hN.nums hR).to fun j hj => by rw [zsP_is (hA.lt j hj) (hN.lt j hj)])).mono ?_
  rintro e' w' ⟨⟨hm, rfl⟩ | ⟨hm, rfl⟩, hw⟩
  ·rcases hr with ⟨-, rfl, rfl⟩ | ⟨hno, -, -⟩
   ·exact ⟨rfl, hw⟩
   ·exact absurd ⟨hb1, rfl, hm⟩ hno
  ·rcases hr with ⟨hyes, -, -⟩ | ⟨-, rfl, rfl⟩
   ·exact absurd hyes.2.2 hm
   ·exact ⟨rfl, hw⟩
 ·rcases hr with ⟨hyes, -, -⟩ | ⟨-, rfl, rfl⟩
  ·exact absurd ⟨hyes.1, hyes.2.1⟩ hb
  ·refine product_bad hp ?_ pa pn ca cn h1 h2 w
   by_cases hb1 : 1 < p
   ·exact .inr ⟨hb1, fun h => hb ⟨hb1, h⟩⟩
   ·exact .inl hb1
theorem rprod_any {W : World} (hp : p < B) (hq : q < B) (hA : NAt W.heap.size W [] pa n ca f) (hN : NAt W.heap.size W [] pn m cn k) (h1 : n ≤ 1000000) (h2 : m ≤ 1000000) {r : Nat} {e : Int} (hr : prodRes p n m (zsP f k) r e) :
  Calls Tryz.prog 113 #[grp p q g h, .slice pa n ca, .slice pn m cn] W fun e' w' => e' = .returned (.tuple #[num r, .int .i64 e]) ∧ Below W.heap.size W w' := by
 have tp := gl_p p q g h
 obtain ⟨n1, hn1⟩ : ∃ n, n = 1 := ⟨_, rfl⟩
 have o1 := fun w => rone_any n1 hn1 w
 have L1 : n1 < B := lt_B (by omega)
 have c1 := rc_lit hp L1 rfl
 have k1 := xHi p n1
 have hR := Rep.init W
 by_cases hb1 : 1 < p
 case neg =>
  have j1 : decide (cmpN p n1 ≤ 0) = true := decide_eq_true (k1.mpr (by omega))
  have j1' : cmpN p n1 ≤ 0 := oD j1
  generalize cmpN p n1 = x1 at *
  rcases hr with ⟨hyes, -, -⟩ | ⟨-, rfl, rfl⟩
  ·exact absurd hyes.1 hb1
  rw [z_num]
  clear k1 hb1 hn1 L1 hA hN
  go_enter Tryz.func113, Tryz.ntmps113
  go_wp2_with (first | (refine' aAq hR ?_; clear hR; intro blk w hR) | (refine' aBq hR ?_; clear hR; intro blk w hR))
  refine xAd hR [0, 0, 0, 0, 0, 0, 0, 0, 0, 0, 0, 0] [] xBd (by kernel_rfl) rfl rfl (fun K hK => ?_)
  clear hR
  repeat ((first | (refine' xAj (by decide) rfl (.inl rfl) rfl ?ha ?_) | (refine' aSq ?ha ?_) | ((first | refine' xAm (by decide) rfl rfl rfl rfl (fun w => ?hq) ?ha ?_ | refine' xAl (by decide) rfl rfl rfl (fun w => ?hq) ?ha ?_); (case hq => go_simp; try rfl)) | (refine' xBh (by decide) rfl rfl rfl rfl ?ha ?_) | (refine' xCe (by decide) rfl ?ha ?_) | (refine' xAk rfl rfl rfl (xAi Tryz.func186 (by kernel_rfl) (by kernel_rfl) _) (fun w => o1 w) ?ha ?_) | (refine' xAk rfl rfl rfl (xAi Tryz.func185 (by kernel_rfl) (by kernel_rfl) _) (fun w => c1 w) ?ha ?_)); try (case ha => simp only [kP, kQ, kA, kB]; try rfl))
  refine xAo (hK _ _ ?_)
  clear hK K
  refine xAr (fun Q hQ => ?_)
  try simp only [List.nil_append, List.cons_append]
  repeat ((fail); (case hk => intro p hp; first | exact absurd hp List.not_mem_nil | (obtain rfl := List.mem_singleton.1 hp; repeat (first | exact List.Mem.head _ | with_reducible assumption | apply mC))); (case ha => simp only [kP, kQ, kA, kB]; try rfl))
  refine xAs (fun w hR => hQ _ _ ?_)
  clear hQ Q
  go_wp2_with (refine' aFq hR ?_; clear hR; intro w hR)
  (refine' bodyPost_ret (xAh Tryz.results113 rfl (hR.loadAll (P := Tryz.prog) (ty := 24) ?hm ?hn)) rfl ⟨?_, hR.below⟩; (case hm => first | with_reducible assumption | repeat (first | exact .head _ | with_reducible assumption | apply mC)); (case hn => first | rfl | simp))
  rfl
 have j1' : ¬ cmpN p n1 ≤ 0 := fun h => by have := k1.mp h; omega
 have j1 : decide (cmpN p n1 ≤ 0) = false := decide_eq_false j1'
 generalize cmpN p n1 = x1 at *
 clear k1
 by_cases hnm : n = m
 case neg =>
  rcases hr with ⟨hyes, -, -⟩ | ⟨-, rfl, rfl⟩
  ·exact absurd hyes.2.1 hnm
  rw [z_num]
  have j3 : ¬ (n : Int) = (m : Int) := by omega
  have j2 : ((n : Int) == (m : Int)) = false := by simp; omega
  have j4 : ((n : Int) != (m : Int)) = true := by simp; omega
  clear hb1 hn1 L1 hA hN hnm
  go_enter Tryz.func113, Tryz.ntmps113
  go_wp2_with (first | (refine' aAq hR ?_; clear hR; intro blk w hR) | (refine' aBq hR ?_; clear hR; intro blk w hR))
  refine xAd hR [0, 0, 0, 0, 0, 0, 0, 0, 0, 0, 0, 0] [] xBd (by kernel_rfl) rfl rfl (fun K hK => ?_)
  clear hR
  repeat ((first | (refine' xAj (by decide) rfl (.inl rfl) rfl ?ha ?_) | (refine' aSq ?ha ?_) | ((first | refine' xAm (by decide) rfl rfl rfl rfl (fun w => ?hq) ?ha ?_ | refine' xAl (by decide) rfl rfl rfl (fun w => ?hq) ?ha ?_); (case hq => go_simp; try rfl)) | (refine' xBh (by decide) rfl rfl rfl rfl ?ha ?_) | (refine' xAk rfl rfl rfl (xAi Tryz.func186 (by kernel_rfl) (by kernel_rfl) _) (fun w => o1 w) ?ha ?_) | (refine' xAk rfl rfl rfl (xAi Tryz.func185 (by kernel_rfl) (by kernel_rfl) _) (fun w => c1 w) ?ha ?_) | (refine' hd_len (by decide) rfl rfl rfl (fun w => ?hq) ?ha ?_; (case hq => go_simp; try rfl))); try (case ha => simp only [kP, kQ, kA, kB]; try rfl))
  refine xAo (hK _ _ ?_)
  clear hK K
  refine xAr (fun Q hQ => ?_)
  try simp only [List.nil_append, List.cons_append]
  repeat ((fail); (case hk => intro p hp; first | exact absurd hp List.not_mem_nil | (obtain rfl := List.mem_singleton.1 hp; repeat (first | exact List.Mem.head _ | with_reducible assumption | apply mC))); (case ha => simp only [kP, kQ, kA, kB]; try rfl))
  refine xAs (fun w hR => hQ _ _ ?_)
  clear hQ Q
  go_wp2_with (refine' aFq hR ?_; clear hR; intro w hR)
  (refine' bodyPost_ret (xAh Tryz.results113 rfl (hR.loadAll (P := Tryz.prog) (ty := 24) ?hm ?hn)) rfl ⟨?_, hR.below⟩; (case hm => first | with_reducible assumption | repeat (first | exact .head _ | with_reducible assumption | apply mC)); (case hn => first | rfl | simp))
  rfl
 subst hnm
 have hr' : (xGf p (up (zsP f k) n) ∧ r = xHt p (up (zsP f k) n) ∧ e = 0) ∨ (¬ xGf p (up (zsP f k) n) ∧ r = 0 ∧ e = 1) := by
  rcases hr with ⟨hyes, h3, h4⟩ | ⟨hno, h3, h4⟩
  ·exact .inl ⟨hyes.2.2, h3, h4⟩
  ·exact .inr ⟨fun hm => hno ⟨hb1, rfl, hm⟩, h3, h4⟩
 have ep : xHt p [] = n1 := by rw [hn1]; rfl
 have fB : ∀ j, j < n → f j < B := hA.lt
 have kB : ∀ j, j < n → k j < B := hN.lt
 replace ep := Held.mk ep
 replace hr' := Held.mk hr'
 replace hA := Held.mk hA
 replace hN := Held.mk hN
 replace fB := Held.mk fB
 replace kB := Held.mk kB
 clear hr hn1 L1
 go_enter Tryz.func113, Tryz.ntmps113
 go_wp2_with (first | (refine' aAq hR ?_; clear hR; intro blk w hR) | (refine' aBq hR ?_; clear hR; intro blk w hR))
 refine xAd hR [0, 0, 0, 0, 0, 0, 0, 0, 0, 0, 0, 0] [] xBd (by kernel_rfl) rfl rfl (fun K hK => ?_)
 clear hR
 repeat ((first | (refine' xAj (by decide) rfl (.inl rfl) rfl ?ha ?_) | (refine' aSq ?ha ?_) | ((first | refine' xAm (by decide) rfl rfl rfl rfl (fun w => ?hq) ?ha ?_ | refine' xAl (by decide) rfl rfl rfl (fun w => ?hq) ?ha ?_); (case hq => go_simp; try rfl)) | (refine' xBh (by decide) rfl rfl rfl rfl ?ha ?_) | (refine' xAk rfl rfl rfl (xAi Tryz.func186 (by kernel_rfl) (by kernel_rfl) _) (fun w => o1 w) ?ha ?_) | (refine' xAk rfl rfl rfl (xAi Tryz.func185 (by kernel_rfl) (by kernel_rfl) _) (fun w => c1 w) ?ha ?_) | (refine' hd_len (by decide) rfl rfl rfl (fun w => ?hq) ?ha ?_; (case hq => go_simp; try rfl))); try (case ha => simp only [kP, kQ, kA, kB]; try rfl))
 refine xAo (hK _ _ ?_)
 clear hK K
 refine xAr (fun Q hQ => ?_)
 try simp only [List.nil_append, List.cons_append]
 repeat ((fail); (case hk => intro p hp; first | exact absurd hp List.not_mem_nil | (obtain rfl := List.mem_singleton.1 hp; repeat (first | exact List.Mem.head _ | with_reducible assumption | apply mC))); (case ha => simp only [kP, kQ, kA, kB]; try rfl))
 refine xAs (fun w hR => hQ _ _ ?_)
 clear hQ Q
 go_wp2_with (first | (refine' aBq hR ?_; clear hR; intro blk w hR) | (refine' aFq hR ?_; clear hR; intro w hR) | (go_at_call 186; refine (o1 _).mono ?_; rintro e w ⟨rfl, hb⟩; replace hR := hR.call hb; clear hb))
 clear o1 c1
 (first | (rename_i b6; change Nat at b6) | (rename_i b6 _; change Nat at b6) | (rename_i b6 _ _; change Nat at b6) | (rename_i b6 _ _ _; change Nat at b6) | (rename_i b6 _ _ _ _; change Nat at b6) | (rename_i b6 _ _ _ _ _; change Nat at b6) | (rename_i b6 _ _ _ _ _ _; change Nat at b6) | (rename_i b6 _ _ _ _ _ _ _; change Nat at b6) | (rename_i b6 _ _ _ _ _ _ _ _; change Nat at b6) | (rename_i b6 _ _ _ _ _ _ _ _ _; change Nat at b6) | (rename_i b6 _ _ _ _ _ _ _ _ _ _; change Nat at b6) | (rename_i b6 _ _ _ _ _ _ _ _ _ _ _; change Nat at b6) | (rename_i b6 _ _ _ _ _ _ _ _ _ _ _ _; change Nat at b6) | (rename_i b6 _ _ _ _ _ _ _ _ _ _ _ _ _; change Nat at b6) | (rename_i b6 _ _ _ _ _ _ _ _ _ _ _ _ _ _; change Nat at b6) | (rename_i b6 _ _ _ _ _ _ _ _ _ _ _ _ _ _ _; change Nat at b6) | (rename_i b6 _ _ _ _ _ _ _ _ _ _ _ _ _ _ _ _; change Nat at b6) | (rename_i b6 _ _ _ _ _ _ _ _ _ _ _ _ _ _ _ _ _; change Nat at b6) | (rename_i b6 _ _ _ _ _ _ _ _ _ _ _ _ _ _ _ _ _ _; change Nat at b6) | (rename_i b6 _ _ _ _ _ _ _ _ _ _ _ _ _ _ _ _ _ _ _; change Nat at b6) | (rename_i b6 _ _ _ _ _ _ _ _ _ _ _ _ _ _ _ _ _ _ _ _; change Nat at b6) | (rename_i b6 _ _ _ _ _ _ _ _ _ _ _ _ _ _ _ _ _ _ _ _ _; change Nat at b6) | (rename_i b6 _ _ _ _ _ _ _ _ _ _ _ _ _ _ _ _ _ _ _ _ _ _; change Nat at b6) | (rename_i b6 _ _ _ _ _ _ _ _ _ _ _ _ _ _ _ _ _ _ _ _ _ _ _; change Nat at b6) | (rename_i b6 _ _ _ _ _ _ _ _ _ _ _ _ _ _ _ _ _ _ _ _ _ _ _ _; change Nat at b6) | (rename_i b6 _ _ _ _ _ _ _ _ _ _ _ _ _ _ _ _ _ _ _ _ _ _ _ _ _; change Nat at b6) | (rename_i b6 _ _ _ _ _ _ _ _ _ _ _ _ _ _ _ _ _ _ _ _ _ _ _ _ _ _; change Nat at b6) | (rename_i b6 _ _ _ _ _ _ _ _ _ _ _ _ _ _ _ _ _ _ _ _ _ _ _ _ _ _ _; change Nat at b6) | (rename_i b6 _ _ _ _ _ _ _ _ _ _ _ _ _ _ _ _ _ _ _ _ _ _ _ _ _ _ _ _; change Nat at b6) | (rename_i b6 _ _ _ _ _ _ _ _ _ _ _ _ _ _ _ _ _ _ _ _ _ _ _ _ _ _ _ _ _; change Nat at b6))
 (first | (rename_i bg; change Nat at bg) | (rename_i bg _; change Nat at bg) | (rename_i bg _ _; change Nat at bg) | (rename_i bg _ _ _; change Nat at bg) | (rename_i bg _ _ _ _; change Nat at bg) | (rename_i bg _ _ _ _ _; change Nat at bg) | (rename_i bg _ _ _ _ _ _; change Nat at bg) | (rename_i bg _ _ _ _ _ _ _; change Nat at bg) | (rename_i bg _ _ _ _ _ _ _ _; change Nat at bg) | (rename_i bg _ _ _ _ _ _ _ _ _; change Nat at bg) | (rename_i bg _ _ _ _ _ _ _ _ _ _; change Nat at bg) | (rename_i bg _ _ _ _ _ _ _ _ _ _ _; change Nat at bg) | (rename_i bg _ _ _ _ _ _ _ _ _ _ _ _; change Nat at bg) | (rename_i bg _ _ _ _ _ _ _ _ _ _ _ _ _; change Nat at bg) | (rename_i bg _ _ _ _ _ _ _ _ _ _ _ _ _ _; change Nat at bg) | (rename_i bg _ _ _ _ _ _ _ _ _ _ _ _ _ _ _; change Nat at bg) | (rename_i bg _ _ _ _ _ _ _ _ _ _ _ _ _ _ _ _; change Nat at bg) | (rename_i bg _ _ _ _ _ _ _ _ _ _ _ _ _ _ _ _ _; change Nat at bg) | (rename_i bg _ _ _ _ _ _ _ _ _ _ _ _ _ _ _ _ _ _; change Nat at bg) | (rename_i bg _ _ _ _ _ _ _ _ _ _ _ _ _ _ _ _ _ _ _; change Nat at bg) | (rename_i bg _ _ _ _ _ _ _ _ _ _ _ _ _ _ _ _ _ _ _ _; change Nat at bg) | (rename_i bg _ _ _ _ _ _ _ _ _ _ _ _ _ _ _ _ _ _ _ _ _; change Nat at bg) | (rename_i bg _ _ _ _ _ _ _ _ _ _ _ _ _ _ _ _ _ _ _ _ _ _; change Nat at bg) | (rename_i bg _ _ _ _ _ _ _ _ _ _ _ _ _ _ _ _ _ _ _ _ _ _ _; change Nat at bg) | (rename_i bg _ _ _ _ _ _ _ _ _ _ _ _ _ _ _ _ _ _ _ _ _ _ _ _; change Nat at bg) | (rename_i bg _ _ _ _ _ _ _ _ _ _ _ _ _ _ _ _ _ _ _ _ _ _ _ _ _; change Nat at bg) | (rename_i bg _ _ _ _ _ _ _ _ _ _ _ _ _ _ _ _ _ _ _ _ _ _ _ _ _ _; change Nat at bg) | (rename_i bg _ _ _ _ _ _ _ _ _ _ _ _ _ _ _ _ _ _ _ _ _ _ _ _ _ _ _; change Nat at bg) | (rename_i bg _ _ _ _ _ _ _ _ _ _ _ _ _ _ _ _ _ _ _ _ _ _ _ _ _ _ _ _; change Nat at bg) | (rename_i bg _ _ _ _ _ _ _ _ _ _ _ _ _ _ _ _ _ _ _ _ _ _ _ _ _ _ _ _ _; change Nat at bg))
 replace hR := (show Rep _ _ [(blk, Obj.cells (nl (xHt p (up (zsP f k) 0))).toArray 24), _, _] _ by rw [up_zero, ep.out]; exact hR)
 try simp only [Act.put, kA, kB, List.setIfInBounds_toArray]
 refine' xAv (false :: false :: false :: false :: false :: false :: false :: false :: false :: false :: true :: true :: false :: false :: false :: false :: false :: false :: false :: false :: false :: false :: false :: false :: false :: false :: true :: true :: true :: true :: true :: true :: true :: true :: true :: true :: true :: true :: true :: true :: true :: true :: true :: true :: true :: true :: true :: true :: true :: true :: true :: true :: true :: true :: true :: true :: true :: true :: true :: true :: true :: true :: false :: []) (fun (i : Nat) l => l.set 9 (.int .i64 (i : Int))) (fun i => [(blk, Obj.cells (nl (xHt p (up (zsP f k) i))).toArray 24), (b6, Obj.cells (List.toArray [Value.int .u64 0, .int .u64 0, .int .u64 0, .int .u64 0]) 24), (bg, Obj.cells (gl p q g h).toArray 26)]) (fun i => n - i) (fun i => i ≤ n ∧ xGf p (up (zsP f k) i)) 0 ?h0 ?hO ?hR ?hs
 case h0 => exact xAf rfl rfl rfl
 case hO => exact ⟨Nat.zero_le _, fun x hx => nomatch hx⟩
 case hR => exact hR
 case hs =>
  clear hR
  intro i tm w hi ht hR K hK
  obtain ⟨hi, hmay⟩ := hi
  replace hmay := Held.mk hmay
  have g0 : 0 ≤ (i : Int) := by omega
  by_cases hik : i = n
  ·subst hik
   have t1 : ¬ (i : Int) < (i : Int) := by omega
   obtain ⟨rfl, rfl⟩ : r = xHt p (up (zsP f k) i) ∧ e = 0 := by
    rcases hr'.out with ⟨-, h1, h2⟩ | ⟨h1, -, -⟩
    ·exact ⟨h1, h2⟩
    ·exact absurd hmay.out h1
   obtain ⟨P, hP⟩ : ∃ x, xHt p (up (zsP f k) i) = x := ⟨_, rfl⟩
   replace hR := (show Rep _ _ [(blk, Obj.cells (nl (xHt p (up (zsP f k) i))).toArray 24), _, _] _ from hR)
   rw [hP] at hR
   replace hP := Held.mk hP
   clear hK hi hA hN hr' hmay fB kB
   repeat (first | (obtain ⟨x, tm', e, ht'⟩ := xAc ht; clear ht; subst e; have ht := ht'; clear ht') | (obtain ⟨tm', e, ht'⟩ := xAa ht; clear ht; subst e; have ht := ht'; clear ht'))
   obtain rfl := xAe ht
   clear ht
   go_wp2_with (first | (refine' aNq hR ?_) | (refine' aFq hR ?_; clear hR; intro w hR))
   (refine' bodyPost_ret (xAh Tryz.results113 rfl (hR.loadAll (P := Tryz.prog) (ty := 24) ?hm ?hn)) rfl ⟨?_, hR.below⟩; (case hm => first | with_reducible assumption | repeat (first | exact .head _ | with_reducible assumption | apply mC)); (case hn => first | rfl | simp))
   rw [hP.out]
   rfl
  ·have hin : i < n := by omega
   have g1 : (i : Int) < (n : Int) := by omega
   obtain ⟨bb, off, rfl, hx⟩ := hA.out.at' (by omega)
   obtain ⟨bc, ofc, rfl, hy⟩ := hN.out.at' (by omega)
   have ld1 := fun (L : List (Nat × Obj)) (w' : World) (hw : Rep W.heap.size W L w') => xBc (hx w' (hw.weaken (List.nil_sublist _)) i hin)
   have ld2 := fun (L : List (Nat × Obj)) (w' : World) (hw : Rep W.heap.size W L w') => xBc (hy w' (hw.weaken (List.nil_sublist _)) i hin)
   obtain ⟨x, hxe⟩ : ∃ x, f i = x := ⟨_, rfl⟩
   obtain ⟨y, hye⟩ : ∃ y, k i = y := ⟨_, rfl⟩
   have lx : x < B := by rw [← hxe]; exact fB.out i hin
   have ly : y < B := by rw [← hye]; exact kB.out i hin
   rw [hxe] at ld1
   rw [hye] at ld2
   have hz : (zsP f k i).1 = (x, y) := by rw [zsP_is (fB.out i hin) (kB.out i hin), hxe, hye]
   have lP : xHt p (up (zsP f k) i) < p := prodL_lt hb1 _
   have hsuc : xHt p (up (zsP f k) (i + 1)) = mulN (xHt p (up (zsP f k) i)) (powN x y p) p := by
    rw [up_succ, xIa, stepP_def, hz]
   have hmem : zsP f k i ∈ up (zsP f k) n := by
    unfold up
    exact List.mem_map.2 ⟨i, List.mem_range.2 hin, rfl⟩
   have hone : mayG p x → xGf p (up (zsP f k) (i + 1)) := fun hm => by
    rw [up_succ]
    exact xJu hmay.out (by rw [hz]; exact hm)
   obtain ⟨P', hP'⟩ : ∃ x, xHt p (up (zsP f k) (i + 1)) = x := ⟨_, rfl⟩
   obtain ⟨P, hP⟩ : ∃ x, xHt p (up (zsP f k) i) = x := ⟨_, rfl⟩
   rw [hP, hP'] at hsuc
   rw [hP] at lP
   replace hR := (show Rep _ _ [(blk, Obj.cells (nl (xHt p (up (zsP f k) i))).toArray 24), _, _] _ from hR)
   rw [hP] at hR
   by_cases hx1 : mayG p x
   case neg =>
    have m1 := xKd (q := q) (g := g) (h := h) hp lx (decide_eq_false hx1)
    obtain ⟨rfl, rfl⟩ : r = 0 ∧ e = 1 := by
     rcases hr'.out with ⟨h1, -, -⟩ | ⟨-, h1, h2⟩
     ·exact absurd (h1 _ hmem) (by rw [hz]; exact hx1)
     ·exact ⟨h1, h2⟩
    clear hK hi hA hN hr' hmay fB kB hik hin hx hy hxe hye lx ly hz lP hsuc hmem hone hP hP' hx1 ep
    repeat (first | (obtain ⟨x, tm', e, ht'⟩ := xAc ht; clear ht; subst e; have ht := ht'; clear ht') | (obtain ⟨tm', e, ht'⟩ := xAa ht; clear ht; subst e; have ht := ht'; clear ht'))
    obtain rfl := xAe ht
    clear ht
    go_wp2_with (fail)
    refine xAd hR [0, 0, 0, 0, 0, 0, 0] [] xBd (by kernel_rfl) rfl rfl (fun K hK => ?_)
    clear hR
    repeat ((first | (refine' xAj (by decide) rfl (.inl rfl) rfl ?ha ?_) | (refine' aOq ?ha ?_) | ((refine' xAg (by decide) rfl rfl rfl rfl (fun w => ?hq) ?ha ?_); (case hq => go_simp; try rfl)) | (refine' xAn rfl rfl rfl (fun w' hw => ld1 _ w' hw) ?ha ?_; (case ha => simp only [kP, kQ, kA, kB]; try rfl)) | (refine' xAk rfl rfl rfl (xAi Tryz.func112 (by kernel_rfl) (by kernel_rfl) _) (fun w => m1 w) ?ha ?_) | (refine' xDy (by decide) rfl rfl rfl (fun w => ?hq) ?ha ?_; (case hq => go_simp; try rfl))); try (case ha => simp only [kP, kQ, kA, kB]; try rfl))
    refine xAo (hK _ _ ?_)
    clear hK K
    refine xAr (fun Q hQ => ?_)
    try simp only [List.nil_append, List.cons_append]
    repeat ((fail); (case hk => intro p hp; first | exact absurd hp List.not_mem_nil | (obtain rfl := List.mem_singleton.1 hp; repeat (first | exact List.Mem.head _ | with_reducible assumption | apply mC))); (case ha => simp only [kP, kQ, kA, kB]; try rfl))
    refine xAs (fun w hR => hQ _ _ ?_)
    clear hQ Q
    go_wp2_with (refine' aFq hR ?_; clear hR; intro w hR)
    (refine' bodyPost_ret (xAh Tryz.results113 rfl (hR.loadAll (P := Tryz.prog) (ty := 24) ?hm ?hn)) rfl ⟨?_, hR.below⟩; (case hm => first | with_reducible assumption | repeat (first | exact .head _ | with_reducible assumption | apply mC)); (case hn => first | rfl | simp))
    rw [z_num]
    rfl
   case pos =>
    have m1 := xKd (q := q) (g := g) (h := h) hp lx (decide_eq_true hx1)
    obtain ⟨X, hX⟩ : ∃ X, powN x y p = X := ⟨_, rfl⟩
    have lX : X < p := by rw [← hX]; exact pow_lt' hb1 _ _
    have x1 := fun w => ref04_exp x y p lx ly hp w
    rw [if_pos ⟨hb1, hx1.2.2⟩, if_pos ⟨hb1, hx1.2.2⟩, hX] at x1
    have x2 := fun w => ref04_mul P X p (Nat.lt_trans lP hp) (Nat.lt_trans lX hp) hp w
    rw [if_pos ⟨hb1, lP, lX⟩, if_pos ⟨hb1, lP, lX⟩, ← hX, ← hsuc] at x2
    rw [hX] at x2
    have hnext := hone hx1
    have ei : IntKind.i64.wrap ((i : Int) + 1) = ((i + 1 : Nat) : Int) := by rw [IntKind.wrap_i64]; omega
    have hi1 : i + 1 ≤ n := by omega
    have hmu : n - (i + 1) < n - i := by omega
    replace hi1 := Held.mk hi1
    replace hmu := Held.mk hmu
    replace hnext := Held.mk hnext
    replace hP' := Held.mk hP'
    clear hi hA hN hr' hmay fB kB hik hin hx hy hxe hye lx ly hz lP hsuc hmem hone hP hx1 ep hX lX
    repeat (first | (obtain ⟨x, tm', e, ht'⟩ := xAc ht; clear ht; subst e; have ht := ht'; clear ht') | (obtain ⟨tm', e, ht'⟩ := xAa ht; clear ht; subst e; have ht := ht'; clear ht'))
    obtain rfl := xAe ht
    clear ht
    go_wp2_with (fail)
    refine xAd hR [0, 0, 0, 0, 0, 0, 0] [] xBd (by kernel_rfl) rfl rfl (fun K hK => ?_)
    clear hR
    repeat ((first | (refine' xAj (by decide) rfl (.inl rfl) rfl ?ha ?_) | (refine' aOq ?ha ?_) | ((refine' xAg (by decide) rfl rfl rfl rfl (fun w => ?hq) ?ha ?_); (case hq => go_simp; try rfl)) | (refine' xAn rfl rfl rfl (fun w' hw => ld1 _ w' hw) ?ha ?_; (case ha => simp only [kP, kQ, kA, kB]; try rfl)) | (refine' xAk rfl rfl rfl (xAi Tryz.func112 (by kernel_rfl) (by kernel_rfl) _) (fun w => m1 w) ?ha ?_) | (refine' xDy (by decide) rfl rfl rfl (fun w => ?hq) ?ha ?_; (case hq => go_simp; try rfl))); try (case ha => simp only [kP, kQ, kA, kB]; try rfl))
    refine xAo (hK _ _ ?_)
    clear hK K
    refine xAr (fun Q hQ => ?_)
    try simp only [List.nil_append, List.cons_append]
    repeat ((fail); (case hk => intro p hp; first | exact absurd hp List.not_mem_nil | (obtain rfl := List.mem_singleton.1 hp; repeat (first | exact List.Mem.head _ | with_reducible assumption | apply mC))); (case ha => simp only [kP, kQ, kA, kB]; try rfl))
    refine xAs (fun w hR => hQ _ _ ?_)
    clear hQ Q
    go_wp2_with (fail)
    refine' xCg hR [1, 1, 1, 1, 1, 1, 1, 1, 1, 1, 1, 1, 1, 1, 2, 2, 2] 14 10 _ _ [15, 16] xBd (by kernel_rfl) rfl rfl rfl rfl rfl (xFb rfl rfl ?z1) ?_
    case z1 => exact inferInstance
    intro K hK
    clear hR
    repeat ((first | (refine' xDr rfl rfl rfl ld1 ?ha ?_) | (refine' xDr rfl rfl rfl ld2 ?ha ?_) | (refine xAp ?_) | (refine' xAj (by decide) rfl (.inl rfl) rfl ?ha ?_) | (refine' aWq ?ha ?_) | ((first | refine' xAg (by decide) rfl rfl rfl rfl (fun w => ?hq) ?ha ?_ | refine' xAt (by decide) rfl rfl rfl (fun w => ?hq) ?ha ?_ | refine' xAl (by decide) rfl rfl rfl (fun w => ?hq) ?ha ?_); (case hq => go_simp; try rfl)) | (refine' xBk rfl rfl rfl (xAi Tryz.func187 (by kernel_rfl) (by kernel_rfl) _) (fun w => x1 w) ?ha ?_)); try (case ha => simp only [kP, kQ, kA, kB]; try rfl))
    try simp only [List.nil_append, List.cons_append]
    refine xAo (hK _ _ (fun _ => ?_))
    clear hK K
    refine xAr (fun Q hQ => ?_)
    simp only [kP, kQ, kA, kB]
    repeat ((first | refine' xBf rfl (.inr rfl) rfl ?hk ?ha ?_ | (refine' aKq ?hk ?ha ?_)); (case hk => intro p hp; repeat (first | exact hp | apply mT)); (case ha => simp only [kP, kQ, kA, kB]; try rfl))
    refine xAs (fun w hR => hQ _ _ ?_)
    clear hQ Q
    go_wp2_with (first | (refine' aNq hR ?_) | (refine' aPq hR ?_) | (refine' aFq hR ?_; clear hR; intro w hR) | (go_at_call 180; refine (x2 _).mono ?_; rintro e w ⟨rfl, hb⟩; replace hR := hR.call hb; clear hb))
    refine hK.out (i + 1) _ _ ⟨hi1.out, hnext.out⟩ hmu.out (xAf rfl rfl rfl) ?_
    rw [hP'.out]
    exact hR.weaken (List.sublist_cons_self _ _)
end
end
end Go.Proofs.YtaaahfjpnggkbaaGreatDoor
