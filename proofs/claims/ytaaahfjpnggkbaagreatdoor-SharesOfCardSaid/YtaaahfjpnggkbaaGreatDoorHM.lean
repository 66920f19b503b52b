import Derived.Test.YtaaahfjpnggkbaaGreatDoorHH
import Derived.Test.YtaaahfjpnggkbaaGreatDoorHJ
import Derived.Test.YtaaahfjpnggkbaaGreatDoorHF2
set_option linter.unusedSimpArgs false
set_option linter.unusedVariables false
set_option maxRecDepth 100000
set_option maxHeartbeats 20000000
namespace Go.Proofs.YtaaahfjpnggkbaaGreatDoor
open Go.RowKit
section
attribute [local irreducible] Calls
theorem inv_exists {a m : Nat} (h1 : 1 < m) (ha : a < m) (hg : Nat.gcd a m = 1) : ∃ y, y < m ∧ y * a % m = 1 := by
 have a0 : 1 ≤ a := by
  rcases Nat.eq_zero_or_pos a with h | h
  ·rw [h, Nat.gcd_zero_left] at hg; omega
  ·exact h
 obtain ⟨N, R, S, X, Y, k1, k2, k3, k4, k5, k6, k7, k8⟩ := xIu a m h1 a m 0 1 (by rw [Nat.gcd_comm, hg]) a0 ha (Nat.le_refl _) (by omega) h1 (by rw [Nat.zero_mul, Nat.zero_mod, Nat.mod_self]) (by rw [Nat.one_mul])
 exact ⟨Y 0, (k7 0 (Nat.zero_le _)).2.2.2, k6⟩
theorem xGn {a m : Nat} (h1 : 1 < m) (ha : a < m) (hg : Nat.gcd a m = 1) : invM a m < m ∧ invM a m * a % m = 1 := by
 obtain ⟨y, h2, h3⟩ := inv_exists h1 ha hg
 rw [invM_yes hg, invN_is h2 h3]
 exact ⟨h2, h3⟩
theorem invM_pos {a m : Nat} (h1 : 1 < m) (ha : a < m) (hg : Nat.gcd a m = 1) : invM a m ≠ 0 := fun h => by
 have := (xGn h1 ha hg).2
 rw [h, Nat.zero_mul, Nat.zero_mod] at this
 omega
def invE (a m : Nat) : Int := if okE a m then (if Nat.gcd a m = 1 then 0 else 7) else 1
theorem deed_inv (a m : Nat) (ha : a < B) (hm : m < B) (w : World) :
  Calls Tryz.prog 205 #[.agg #[.func (.func 208) #[] #[]], num a, num a, num m] w fun e w' =>
  e = .returned (.tuple #[num (if okE a m then invM a m else 0), .int .i64 (if okE a m then 0 else 1)]) ∧ Below w.heap.size w w' := by
 obtain ⟨n1, hn1⟩ : ∃ n, n = 1 := ⟨_, rfl⟩
 have o1 : ∀ w, Calls Tryz.prog 171 #[.int .u64 1] w fun e w' => e = .returned (num n1) ∧ Below w.heap.size w w' := fun w => by
  rw [hn1]; exact xFh 1 (by decide) w
 have L1 : n1 < B := lt_B (by omega)
 have c1 := xDg hm L1 rfl
 have c2 := xDg ha hm rfl
 have k1 := xHi m n1
 have k2 := xFv a m
 by_cases ok : okE a m
 ·rw [if_pos ok, if_pos ok]
  have hd := fun w => invm_any a a m ok.2 hm ok.1 w
  generalize invM a m = r at *
  have j1 : ¬ cmpN m n1 ≤ 0 := fun h => by have := k1.mp h; have := ok.1; omega
  have j2 : ¬ 0 ≤ cmpN a m := fun h => by have := k2.mp h; have := ok.2; omega
  generalize cmpN m n1 = x1 at *
  generalize cmpN a m = x2 at *
  have q1 : decide (x1 ≤ 0) = false := decide_eq_false j1
  have q2 : decide (0 ≤ x2) = false := decide_eq_false j2
  clear k1 k2 ok L1 hn1 j1 j2
  have hR := Rep.init w
  go_enter Tryz.func205, Tryz.ntmps205
  go_wp2_with (first | (refine' aAq hR ?_; clear hR; intro blk w hR) | (refine' aBq hR ?_; clear hR; intro blk w hR))
  refine xAd hR [0, 0, 0, 0, 0, 0, 0, 0, 0, 0, 0, 0, 0, 0, 0, 0] [] xBd (by kernel_rfl) rfl rfl (fun K hK => ?_)
  clear hR
  repeat ((first | (refine' xAj (by decide) rfl (.inl rfl) rfl ?ha ?_) | (refine' aIq ?ha ?_) | ((refine' xAm (by decide) rfl rfl rfl rfl (fun w => ?hq) ?ha ?_); (case hq => go_simp; try rfl)) | (refine' xBh (by decide) rfl rfl rfl rfl ?ha ?_) | (refine' xAk rfl rfl rfl (xAi Tryz.func171 (by kernel_rfl) (by kernel_rfl) _) (fun w => o1 w) ?ha ?_) | (refine' xAk rfl rfl rfl (xAi Tryz.func183 (by kernel_rfl) (by kernel_rfl) _) (fun w => c1 w) ?ha ?_) | (refine' xAk rfl rfl rfl (xAi Tryz.func183 (by kernel_rfl) (by kernel_rfl) _) (fun w => c2 w) ?ha ?_)); try (case ha => simp only [kP, kQ, kA, kB]; try rfl))
  refine xAo (hK _ _ ?_)
  clear hK K
  refine xAr (fun Q hQ => ?_)
  try simp only [List.nil_append, List.cons_append]
  repeat ((fail); (case hk => intro p hp; first | exact absurd hp List.not_mem_nil | (obtain rfl := List.mem_singleton.1 hp; repeat (first | exact List.Mem.head _ | apply mT))); (case ha => simp only [kP, kQ, kA, kB]; try rfl))
  refine xAs (fun w hR => hQ _ _ ?_)
  clear hQ Q
  go_wp2_with (first | (refine' aEq hR ?_) | (refine' aGq hR ?_) | (refine' aFq hR ?_; clear hR; intro w hR) | (go_at_call 208; refine (hd _).mono ?_; rintro e w ⟨rfl, hb⟩; replace hR := hR.call hb; clear hb))
  (refine' bodyPost_ret (xAh Tryz.results205 rfl (hR.loadAll (P := Tryz.prog) (ty := 24) ?hm ?hn)) rfl ⟨?_, hR.below⟩; (case hm => first | with_reducible assumption | repeat (first | exact .head _ | apply mT)); (case hn => first | rfl | simp))
  rfl
 ·rw [if_neg ok, if_neg ok]
  have hc : decide (cmpN m n1 ≤ 0) = true ∨ (decide (cmpN m n1 ≤ 0) = false ∧ decide (0 ≤ cmpN a m) = true) := by
   simp only [decide_eq_true_iff, decide_eq_false_iff_not]
   rw [k1, k2]
   unfold okE at ok
   omega
  generalize cmpN m n1 = x1 at *
  generalize cmpN a m = x2 at *
  clear k1 k2 ok L1 hn1
  have hR := Rep.init w
  rcases hc with j1 | ⟨j1, j2⟩
  all_goals
   go_enter Tryz.func205, Tryz.ntmps205
   go_wp2_with (first | (refine' aAq hR ?_; clear hR; intro blk w hR) | (refine' aBq hR ?_; clear hR; intro blk w hR))
   refine xAd hR [0, 0, 0, 0, 0, 0, 0, 0, 0, 0, 0, 0, 0, 0, 0, 0] [] xBd (by kernel_rfl) rfl rfl (fun K hK => ?_)
   clear hR
   repeat ((first | (refine' xAj (by decide) rfl (.inl rfl) rfl ?ha ?_) | (refine' aIq ?ha ?_) | ((refine' xAm (by decide) rfl rfl rfl rfl (fun w => ?hq) ?ha ?_); (case hq => go_simp; try rfl)) | (refine' xBh (by decide) rfl rfl rfl rfl ?ha ?_) | (refine' xCe (by decide) rfl ?ha ?_) | (refine' xAk rfl rfl rfl (xAi Tryz.func171 (by kernel_rfl) (by kernel_rfl) _) (fun w => o1 w) ?ha ?_) | (refine' xAk rfl rfl rfl (xAi Tryz.func183 (by kernel_rfl) (by kernel_rfl) _) (fun w => c1 w) ?ha ?_) | (refine' xAk rfl rfl rfl (xAi Tryz.func183 (by kernel_rfl) (by kernel_rfl) _) (fun w => c2 w) ?ha ?_)); try (case ha => simp only [kP, kQ, kA, kB]; try rfl))
   refine xAo (hK _ _ ?_)
   clear hK K
   refine xAr (fun Q hQ => ?_)
   try simp only [List.nil_append, List.cons_append]
   repeat ((fail); (case hk => intro p hp; first | exact absurd hp List.not_mem_nil | (obtain rfl := List.mem_singleton.1 hp; repeat (first | exact List.Mem.head _ | apply mT))); (case ha => simp only [kP, kQ, kA, kB]; try rfl))
   refine xAs (fun w hR => hQ _ _ ?_)
   clear hQ Q
   go_wp2_with (refine' aFq hR ?_; clear hR; intro w hR)
   (refine' bodyPost_ret (xAh Tryz.results205 rfl (hR.loadAll (P := Tryz.prog) (ty := 24) ?hm ?hn)) rfl ⟨?_, hR.below⟩; (case hm => first | with_reducible assumption | repeat (first | exact .head _ | apply mT)); (case hn => first | rfl | simp))
   rw [xBe]
   rfl
theorem mods_inv (a m : Nat) (ha : a < B) (hm : m < B) (w : World) : Calls Tryz.prog 178 #[num a, num m] w fun e w' =>
  e = .returned (.tuple #[num (if okE a m then invM a m else 0), .int .i64 (invE a m)]) ∧ Below w.heap.size w w' := by
 have hd := fun w => deed_inv a m ha hm w
 obtain ⟨n0, hn0⟩ : ∃ n, n = 0 := ⟨_, rfl⟩
 have o0 : ∀ w, Calls Tryz.prog 171 #[.int .u64 0] w fun e w' => e = .returned (num n0) ∧ Below w.heap.size w w' := fun w => by
  rw [hn0]; exact xFh 0 (by decide) w
 have L0 : n0 < B := lt_B (by omega)
 unfold invE
 by_cases ok : okE a m
 ·rw [if_pos ok, if_pos ok] at hd
  rw [if_pos ok, if_pos ok]
  by_cases hg : Nat.gcd a m = 1
  ·rw [if_pos hg]
   have hs := xGn ok.1 ok.2 hg
   have hp := invM_pos ok.1 ok.2 hg
   have e0 : eqN (invM a m) n0 = false := xDq (by omega) L0 (by omega)
   generalize invM a m = r at *
   clear hn0 L0 ok hg hs hp
   have hR := Rep.init w
   go_enter Tryz.func178, Tryz.ntmps178
   go_wp2_with (first | (refine' aAq hR ?_; clear hR; intro blk w hR) | (refine' aBq hR ?_; clear hR; intro blk w hR) | (refine' aEq hR ?_) | (refine' aFq hR ?_; clear hR; intro w hR) | (go_at_call 205; refine (hd _).mono ?_; rintro e w ⟨rfl, hb⟩; replace hR := hR.call hb; clear hb))
   refine xAd hR [0, 0, 0, 0, 0, 0, 0] [] xBd (by kernel_rfl) rfl rfl (fun K hK => ?_)
   clear hR
   repeat ((first | (refine' xAj (by decide) rfl (.inl rfl) rfl ?ha ?_) | (refine' aIq ?ha ?_) | ((refine' xAm (by decide) rfl rfl rfl rfl (fun w => ?hq) ?ha ?_); (case hq => go_simp; try rfl)) | (refine' xBh (by decide) rfl rfl rfl rfl ?ha ?_) | (refine' xAk rfl rfl rfl (xAi Tryz.func171 (by kernel_rfl) (by kernel_rfl) _) (fun w => o0 w) ?ha ?_)); try (case ha => simp only [kP, kQ, kA, kB]; try rfl))
   refine xAo (hK _ _ ?_)
   clear hK K
   refine xAr (fun Q hQ => ?_)
   try simp only [List.nil_append, List.cons_append]
   repeat ((fail); (case hk => intro p hp; first | exact absurd hp List.not_mem_nil | (obtain rfl := List.mem_singleton.1 hp; repeat (first | exact List.Mem.head _ | apply mT))); (case ha => simp only [kP, kQ, kA, kB]; try rfl))
   refine xAs (fun w hR => hQ _ _ ?_)
   clear hQ Q
   go_wp2_with (first | (refine' aEq hR ?_) | (refine' aFq hR ?_; clear hR; intro w hR))
   (refine' bodyPost_ret (xAh Tryz.results178 rfl (hR.loadAll (P := Tryz.prog) (ty := 24) ?hm ?hn)) rfl ⟨?_, hR.below⟩; (case hm => first | with_reducible assumption | repeat (first | exact .head _ | apply mT)); (case hn => first | rfl | simp))
   rfl
  ·rw [if_neg hg]
   have e0 : eqN (invM a m) n0 = true := xFw (by rw [invM_no hg, hn0])
   generalize invM a m = r at *
   clear hn0 L0 ok hg
   have hR := Rep.init w
   go_enter Tryz.func178, Tryz.ntmps178
   go_wp2_with (first | (refine' aAq hR ?_; clear hR; intro blk w hR) | (refine' aBq hR ?_; clear hR; intro blk w hR) | (refine' aEq hR ?_) | (refine' aFq hR ?_; clear hR; intro w hR) | (go_at_call 205; refine (hd _).mono ?_; rintro e w ⟨rfl, hb⟩; replace hR := hR.call hb; clear hb))
   refine xAd hR [0, 0, 0, 0, 0, 0, 0] [] xBd (by kernel_rfl) rfl rfl (fun K hK => ?_)
   clear hR
   repeat ((first | (refine' xAj (by decide) rfl (.inl rfl) rfl ?ha ?_) | (refine' aIq ?ha ?_) | ((refine' xAm (by decide) rfl rfl rfl rfl (fun w => ?hq) ?ha ?_); (case hq => go_simp; try rfl)) | (refine' xBh (by decide) rfl rfl rfl rfl ?ha ?_) | (refine' xAk rfl rfl rfl (xAi Tryz.func171 (by kernel_rfl) (by kernel_rfl) _) (fun w => o0 w) ?ha ?_)); try (case ha => simp only [kP, kQ, kA, kB]; try rfl))
   refine xAo (hK _ _ ?_)
   clear hK K
   refine xAr (fun Q hQ => ?_)
   try simp only [List.nil_append, List.cons_append]
   repeat ((fail); (case hk => intro p hp; first | exact absurd hp List.not_mem_nil | (obtain rfl := List.mem_singleton.1 hp; repeat (first | exact List.Mem.head _ | apply mT))); (case ha => simp only [kP, kQ, kA, kB]; try rfl))
   refine xAs (fun w hR => hQ _ _ ?_)
   clear hQ Q
   go_wp2_with (first | (refine' aEq hR ?_) | (refine' aFq hR ?_; clear hR; intro w hR))
   (refine' bodyPost_ret (xAh Tryz.results178 rfl (hR.loadAll (P := Tryz.prog) (ty := 24) ?hm ?hn)) rfl ⟨?_, hR.below⟩; (case hm => first | with_reducible assumption | repeat (first | exact .head _ | apply mT)); (case hn => first | rfl | simp))
   rfl
 ·rw [if_neg ok, if_neg ok] at hd
  rw [if_neg ok, if_neg ok]
  obtain ⟨z, hz⟩ : ∃ z, z = 0 := ⟨_, rfl⟩
  rw [← hz] at hd
  have : num 0 = num z := by rw [hz]
  rw [this]
  clear this hz hn0 L0 ok
  have hR := Rep.init w
  go_enter Tryz.func178, Tryz.ntmps178
  go_wp2_with (first | (refine' aAq hR ?_; clear hR; intro blk w hR) | (refine' aBq hR ?_; clear hR; intro blk w hR) | (refine' aEq hR ?_) | (refine' aFq hR ?_; clear hR; intro w hR) | (go_at_call 205; refine (hd _).mono ?_; rintro e w ⟨rfl, hb⟩; replace hR := hR.call hb; clear hb))
  refine xAd hR [0, 0, 0, 0, 0, 0, 0] [] xBd (by kernel_rfl) rfl rfl (fun K hK => ?_)
  clear hR
  repeat ((first | (refine' xAj (by decide) rfl (.inl rfl) rfl ?ha ?_) | ((refine' xAm (by decide) rfl rfl rfl rfl (fun w => ?hq) ?ha ?_); (case hq => go_simp; try rfl)) | (refine' xBh (by decide) rfl rfl rfl rfl ?ha ?_) | (refine' xCe (by decide) rfl ?ha ?_)); try (case ha => simp only [kP, kQ, kA, kB]; try rfl))
  refine xAo (hK _ _ ?_)
  clear hK K
  refine xAr (fun Q hQ => ?_)
  try simp only [List.nil_append, List.cons_append]
  repeat ((fail); (case hk => intro p hp; first | exact absurd hp List.not_mem_nil | (obtain rfl := List.mem_singleton.1 hp; repeat (first | exact List.Mem.head _ | apply mT))); (case ha => simp only [kP, kQ, kA, kB]; try rfl))
  refine xAs (fun w hR => hQ _ _ ?_)
  clear hQ Q
  go_wp2_with (first | (refine' aEq hR ?_) | (refine' aFq hR ?_; clear hR; intro w hR))
  (refine' bodyPost_ret (xAh Tryz.results178 rfl (hR.loadAll (P := Tryz.prog) (ty := 24) ?hm ?hn)) rfl ⟨?_, hR.below⟩; (case hm => first | with_reducible assumption | repeat (first | exact .head _ | apply mT)); (case hn => first | rfl | simp))
  rfl
end
section
attribute [local irreducible] Calls
theorem madd_lit {a b m r : Nat} {e : Int} (ha : a < B) (hb : b < B) (hm : m < B) (hr : (if okM a b m then (a + b) % m else 0) = r) (he : (if okM a b m then (0 : Int) else 1) = e) (w : World) : Calls Tryz.prog 173 #[num a, num b, num m] w fun e' w' =>
  e' = .returned (.tuple #[num r, .int .i64 e]) ∧ Below w.heap.size w w' := by
 have := mods_add a b m ha hb hm w
 rwa [hr, he] at this
theorem msub_lit {a b m r : Nat} {e : Int} (ha : a < B) (hb : b < B) (hm : m < B) (hr : (if okM a b m then subN a b m else 0) = r) (he : (if okM a b m then (0 : Int) else 1) = e) (w : World) : Calls Tryz.prog 175 #[num a, num b, num m] w fun e' w' =>
  e' = .returned (.tuple #[num r, .int .i64 e]) ∧ Below w.heap.size w w' := by
 have := mods_sub a b m ha hb hm w
 rwa [hr, he] at this
theorem mmul_lit {a b m r : Nat} {e : Int} (ha : a < B) (hb : b < B) (hm : m < B) (hr : (if okM a b m then mulN a b m else 0) = r) (he : (if okM a b m then (0 : Int) else 1) = e) (w : World) : Calls Tryz.prog 177 #[num a, num b, num m] w fun e' w' =>
  e' = .returned (.tuple #[num r, .int .i64 e]) ∧ Below w.heap.size w w' := by
 have := mods_mul a b m ha hb hm w
 rwa [hr, he] at this
theorem mexp_lit {a n m r : Nat} {e : Int} (ha : a < B) (hn : n < B) (hm : m < B) (hr : (if okE a m then powN a n m else 0) = r) (he : (if okE a m then (0 : Int) else 1) = e) (w : World) : Calls Tryz.prog 182 #[num a, num n, num m] w fun e' w' =>
  e' = .returned (.tuple #[num r, .int .i64 e]) ∧ Below w.heap.size w w' := by
 have := mods_exp a n m ha hn hm w
 rwa [hr, he] at this
theorem minv_lit {a m r : Nat} {e : Int} (ha : a < B) (hm : m < B) (hr : (if okE a m then invM a m else 0) = r) (he : invE a m = e) (w : World) : Calls Tryz.prog 178 #[num a, num m] w fun e' w' =>
  e' = .returned (.tuple #[num r, .int .i64 e]) ∧ Below w.heap.size w w' := by
 have := mods_inv a m ha hm w
 rwa [hr, he] at this
end
section
attribute [local irreducible] Calls
end
section
section
variable {P : Program} {ops : Array Oper} {ts : List Nat} {r acc : List Oper} {o : Oper} {a : Act} {K : List Oper → Act → Prop} {I : (World → Prop) → Prop} {C : World → Prop}
theorem xDy {m : Nat} (hm : m ≠ 2) (hw : Region.wanted o (yielded ops a.tmps) = true) {op : UnOp} {t : TypeId} {x : Operand} (hop : o.op = .unOp op t x) {vx v : Value} (hx' : ev a x = some vx) (hrun : ∀ w, (Op.unary op vx).run P w = .ok v w)
  {a' : Act} (ha : a.put o.dst v = a') (h : xBn P ops I C K ts r acc a') : xBn P ops I C K (m :: ts) (o :: r) acc a :=
 xDc hm hw (fun w => by have hx := xAw hx'; unfold execOp; simp only [hop, hx]; exact xDl _ (hrun w)) ha h
end
theorem xJk {m : Nat} (h : 1 < m) (a b : Nat) : mulN a b m < m := by rw [xCm]; exact Nat.mod_lt _ (by omega)
end
section
instance : xDp Tryz.prog 182 := .mk' (by kernel_rfl) (by kernel_rfl)
theorem pow_lt' {m : Nat} (h : 1 < m) (a i : Nat) : powN a i m < m := by rw [powN_def]; exact Nat.mod_lt _ (by omega)
end
end Go.Proofs.YtaaahfjpnggkbaaGreatDoor
