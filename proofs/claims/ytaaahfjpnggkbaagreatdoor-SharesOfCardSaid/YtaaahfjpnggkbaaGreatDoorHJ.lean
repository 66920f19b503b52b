import Derived.Test.YtaaahfjpnggkbaaGreatDoorHG
import Derived.Test.YtaaahfjpnggkbaaGreatDoorHA
set_option linter.unusedSimpArgs false
set_option linter.unusedVariables false
set_option maxRecDepth 100000
set_option maxHeartbeats 20000000
namespace Go.Proofs.YtaaahfjpnggkbaaGreatDoor
open Go.RowKit
section
noncomputable def powN : Nat → Nat → Nat → Nat := opq fun a n m => a ^ n % m
theorem powN_def (a n m : Nat) : powN a n m = a ^ n % m := by unfold powN; rw [xBs]
noncomputable def pR : Nat → Nat → Nat → Nat → Nat := opq fun a n m j => a ^ (n / 2 ^ j) % m
theorem pR_def (a n m j : Nat) : pR a n m j = a ^ (n / 2 ^ j) % m := by unfold pR; rw [xBs]
theorem pR_top {a n m N : Nat} (h1 : 1 < m) (h : n < 2 ^ N) : pR a n m N = 1 := by
 rw [pR_def, Nat.div_eq_of_lt h, Nat.pow_zero, Nat.mod_eq_of_lt h1]
theorem pR_zero (a n m : Nat) : pR a n m 0 = powN a n m := by rw [pR_def, powN_def, Nat.pow_zero, Nat.div_one]
theorem pR_lt {m : Nat} (hm : 1 < m) (a n j : Nat) : pR a n m j < m := by rw [pR_def]; exact Nat.mod_lt _ (by omega)
theorem xHu (a n m j : Nat) : ∃ T, mulN (pR a n m (j + 1)) (pR a n m (j + 1)) m = T ∧ ((n / 2 ^ j % 2 = 0 ∧ pR a n m j = T) ∨ (n / 2 ^ j % 2 = 1 ∧ mulN T a m = pR a n m j)) := by
 refine ⟨_, rfl, ?_⟩
 have hA : n / 2 ^ j = 2 * (n / 2 ^ (j + 1)) + n / 2 ^ j % 2 := by
  rw [Nat.pow_succ, ← Nat.div_div_eq_div_mul]; omega
 simp only [xCm, pR_def]
 generalize n / 2 ^ (j + 1) = A at *
 generalize n / 2 ^ j = D at *
 have h2 : D % 2 = 0 ∨ D % 2 = 1 := by omega
 rcases h2 with h | h
 ·left
  refine ⟨h, ?_⟩
  rw [h, Nat.add_zero] at hA
  rw [← Nat.mul_mod, hA, Nat.two_mul, Nat.pow_add]
 ·right
  refine ⟨h, ?_⟩
  rw [h] at hA
  rw [Nat.mul_mod, Nat.mod_mod, ← Nat.mul_mod, Nat.mul_mod, ← Nat.mul_mod (a ^ A), ← Nat.mul_mod, hA, Nat.pow_succ, Nat.two_mul, Nat.pow_add]
end
section
section
variable {P : Program} {ops : Array Oper} {B0 : Nat} {w0 : World} {L : List (Nat × Obj)} {ts : List Nat} {r acc : List Oper} {o : Oper} {a : Act} {K : List Oper → Act → Prop} {I : (World → Prop) → Prop} {C : World → Prop}
theorem xEu (hw : Region.wanted o (yielded ops a.tmps) = true) {f : FuncId} {xs : List Operand} {us : Array TypeId} (hop : o.op = .call { callee := .value (.func f), args := xs.toArray, argTypes := us }) {vs : List Value} {v : Value} (hx' : evL a xs = some vs)
  (hent : ∀ w, (callFunc f vs.toArray).run P w = .ok (.enter f vs.toArray) w) (hq : ∀ w, Rep B0 w0 L w → Calls P f vs.toArray w fun e w' => e = .returned v ∧ Rep B0 w0 L w')
  {a' : Act} (ha : a.put o.dst v = a') (h : xBn P ops I (Rep B0 w0 L) K ts r acc a') : xBn P ops I (Rep B0 w0 L) K (0 :: ts) (o :: r) acc a :=
 xHk hw (fun w hR => by
  have e : (execOp a.eval o).run P w = .ok (.enter f vs.toArray) w := by
   have hx := xCy hx'
   unfold execOp
   simp only [hop, resolve, Deferred.ofValue, Act.eval, Sem.run_bind, Sem.run_pure, Result.andThen_ok, hx]
   have := hent w
   simpa [invoke] using this
  rw [e]
  exact (hq w hR).mono fun e' w' ⟨he, hb⟩ => ⟨he, hb⟩) ha h
end
end
section
attribute [local irreducible] Calls
section
variable {P : Program} {ops : Array Oper} {B0 : Nat} {w0 : World} {L : List (Nat × Obj)} {ts : List Nat} {r acc : List Oper} {o : Oper} {a : Act} {K : List Oper → Act → Prop} {I : (World → Prop) → Prop} {C : World → Prop}
theorem xGs {m : Nat} (hm : m ≠ 2) (hw : Region.wanted o (yielded ops a.tmps) = true) {f : Fn} {xs ys : List Operand} (hop : o.op = .makeFunc f xs.toArray ys.toArray) {vs us : List Value} (hx' : evL a xs = some vs) (hy' : evL a ys = some us)
  {a' : Act} (ha : a.put o.dst (.func f vs.toArray us.toArray) = a') (h : xBn P ops I C K ts r acc a') : xBn P ops I C K (m :: ts) (o :: r) acc a :=
 xDc hm hw (fun w => by
  have hx := xCy hx'
  have hy := xCy hy'
  unfold execOp
  simp only [hop, hx, hy]
  rfl) ha h
end
section
variable {B0 : Nat} {w0 w : World} {L : List (Nat × Obj)}
theorem exp_word {bm : Nat} {m : Nat} (hm : (bm, Obj.cells (nl m).toArray 24) ∈ L) {a b r : Nat} (ha : a < m) (hb : b < m) (hs : m < 18446744073709551616) (hr : mulN a b m = r) (hR : Rep B0 w0 L w) :
  Calls Tryz.prog 216 #[.int .u64 (a : Int), .int .u64 (b : Int), .pointer (some ⟨bm, 0, none⟩)] w fun e w' => e = .returned (.int .u64 (r : Int)) ∧ Rep B0 w0 L w' := by
 have em : wd m 0 = (m : Int) := by rw [xFm]; unfold w64; omega
 have w1 := fun w => word_any a b m ha (by omega) hs w
 rw [← xCm, hr, ← em] at w1
 clear hr
 have hl : (nl m)[0]? = some (.int .u64 (wd m 0)) := rfl
 clear em
 go_enter Tryz.func216, Tryz.ntmps216
 go_wp2_with (first | (refine' aMq hR ?_) | (go_at_call 217; refine (w1 _).mono ?_; rintro e w ⟨rfl, hb⟩; replace hR := hR.call hb; clear hb))
 go_ret
 exact ⟨rfl, hR⟩
end
end
section
attribute [local irreducible] Calls
section
variable {B0 : Nat} {w0 w : World} {L : List (Nat × Obj)}
theorem power_word {bm : Nat} {m : Nat} (hm : (bm, Obj.cells (nl m).toArray 24) ∈ L) (a n : Nat) (ha : a < m) (hn : n < B) (h1 : 1 < m) (hs : m < 18446744073709551616) (hR : Rep B0 w0 L w) :
  Calls Tryz.prog 215 #[.int .u64 (a : Int), .int .u64 1, num n, .func (.func 216) #[] #[.pointer (some ⟨bm, 0, none⟩)]] w fun e w' => e = .returned (.int .u64 ((powN a n m : Nat) : Int)) ∧ Rep B0 w0 L w' := by
 have cb := fun w => xGb n hn w
 have hn1 : blen n ≤ 256 := (xBg _ _).mpr (by rw [B_eq] at hn; exact hn)
 have hn2 := xFa n
 generalize blen n = N at *
 go_enter Tryz.func215, Tryz.ntmps215
 go_wp2_with (first | (refine' aAq hR ?_; clear hR; intro blk w hR) | (refine' aNq hR ?_) | (go_at_call 169; refine (cb _).mono ?_; rintro e w ⟨rfl, hb⟩; replace hR := hR.call hb; clear hb))
 rename_i K0 k0
 refine' xBm (false :: false :: false :: false :: false :: false :: false :: false :: false :: false :: true :: false :: false :: false :: false :: true :: true :: true :: true :: true :: true :: true :: true :: true :: true :: true :: true :: true :: true :: true :: true :: true :: true :: true :: false :: []) (fun j l => (l.set 9 (.int .u64 ((pR a n m j : Nat) : Int))).set 14 (.int .i64 ((N : Int) - (j : Int)))) (fun j => (blk, .cells (nl n).toArray 24) :: L) N ?h0 ?hR ?hs ?he
 case hR =>
  exact hR
 case h0 =>
  simp only [Int.sub_self, pR_top h1 hn2]
  exact xAf rfl rfl rfl
 case hs =>
  clear hR k0
  intro j tm w hj ht hR K hK
  repeat (first | (obtain ⟨x, tm', e, ht'⟩ := xAc ht; clear ht; subst e; have ht := ht'; clear ht') | (obtain ⟨tm', e, ht'⟩ := xAa ht; clear ht; subst e; have ht := ht'; clear ht'))
  obtain rfl := xAe ht
  clear ht
  obtain ⟨T, hT, hbit⟩ := xHu a n m j
  have hP := pR_lt h1 a n (j + 1)
  have hP0 := pR_lt h1 a n j
  have lT : T < m := by rw [← hT, xCm]; exact Nat.mod_lt _ (by omega)
  have cbit := fun w => bit_any n (j : Int) hn w
  rw [xDj n j (by omega)] at cbit
  generalize pR a n m (j + 1) = R at *
  generalize hk : (N : Int) - ((j + 1 : Nat) : Int) = k
  have k0 : 0 ≤ k := by omega
  have k1 : k < N := by omega
  have ki : (N : Int) - 1 - k = j := by omega
  have kn : k + 1 = (N : Int) - j := by omega
  have kb : (N : Int) ≤ 256 := by omega
  have kN : IntKind.i64.wrap ((N : Int) - 1) = (N : Int) - 1 := by rw [IntKind.wrap_i64]; omega
  have kj : IntKind.i64.wrap (j : Int) = (j : Int) := by rw [IntKind.wrap_i64]; omega
  have kj0 : 0 ≤ (j : Int) := by omega
  have kj1 : (j : Int) < 256 := by omega
  clear hk hP0 hn2
  have hT := Held.mk hT
  rcases hbit with ⟨hb, hS⟩ | ⟨hb, hS⟩
  ·rw [hb] at cbit
   rw [hS] at hK
   clear hb hS
   go_wp2_with (go_at_call 216; refine (exp_word (.tail _ hm) hP hP hs hT.out hR).mono ?_; clear hR; rintro e w ⟨rfl, hR⟩)
   refine xAd hR [0, 0, 0, 0, 0, 0, 0, 0] [] xBd (by kernel_rfl) rfl rfl (fun K hK => ?_)
   clear hR
   repeat ((first | (refine' xAj (by decide) rfl (.inl rfl) rfl ?ha ?_) | (refine' aOq ?ha ?_) | ((refine' xAm (by decide) rfl rfl rfl rfl (fun w => ?hq) ?ha ?_); (case hq => go_simp; try rfl)) | (refine' xAk rfl rfl rfl (xAi Tryz.func169 (by kernel_rfl) (by kernel_rfl) _) (fun w => cb w) ?ha ?_) | (refine' xAk rfl rfl rfl (xAi Tryz.func231 (by kernel_rfl) (by kernel_rfl) _) (fun w => cbit w) ?ha ?_)); try (case ha => simp only [kP, kQ, kA, kB]; try rfl))
   refine xAo (hK _ _ ?_)
   clear hK K
   refine xAr (fun Q hQ => ?_)
   try simp only [List.nil_append, List.cons_append]
   repeat ((fail); (case hk => intro p hp; first | exact absurd hp List.not_mem_nil | (obtain rfl := List.mem_singleton.1 hp; repeat (first | exact List.Mem.head _ | with_reducible assumption | apply mC))); (case ha => simp only [kP, kQ, kA, kB]; try rfl))
   refine xAs (fun w hR => hQ _ _ ?_)
   clear hQ Q
   go_wp2_with (fail)
   exact hK.out _ _ (xAf rfl rfl rfl) hR
  ·rw [hb] at cbit
   have hS := Held.mk hS
   clear hb
   go_wp2_with (go_at_call 216; refine (exp_word (.tail _ hm) hP hP hs hT.out hR).mono ?_; clear hR; rintro e w ⟨rfl, hR⟩)
   refine xAd hR [0, 0, 0, 0, 0, 0, 0, 0] [] xBd (by kernel_rfl) rfl rfl (fun K hK => ?_)
   clear hR
   repeat ((first | (refine' xAj (by decide) rfl (.inl rfl) rfl ?ha ?_) | (refine' aOq ?ha ?_) | ((refine' xAm (by decide) rfl rfl rfl rfl (fun w => ?hq) ?ha ?_); (case hq => go_simp; try rfl)) | (refine' xAk rfl rfl rfl (xAi Tryz.func169 (by kernel_rfl) (by kernel_rfl) _) (fun w => cb w) ?ha ?_) | (refine' xAk rfl rfl rfl (xAi Tryz.func231 (by kernel_rfl) (by kernel_rfl) _) (fun w => cbit w) ?ha ?_)); try (case ha => simp only [kP, kQ, kA, kB]; try rfl))
   refine xAo (hK _ _ ?_)
   clear hK K
   refine xAr (fun Q hQ => ?_)
   try simp only [List.nil_append, List.cons_append]
   repeat ((fail); (case hk => intro p hp; first | exact absurd hp List.not_mem_nil | (obtain rfl := List.mem_singleton.1 hp; repeat (first | exact List.Mem.head _ | with_reducible assumption | apply mC))); (case ha => simp only [kP, kQ, kA, kB]; try rfl))
   refine xAs (fun w hR => hQ _ _ ?_)
   clear hQ Q
   go_wp2_with (go_at_call 216; refine (exp_word (.tail _ hm) lT ha hs hS.out hR).mono ?_; clear hR; rintro e w ⟨rfl, hR⟩)
   exact hK.out _ _ (xAf rfl rfl rfl) hR
 case he =>
  clear hR
  intro tm w ht hR K
  simp only [Int.natCast_zero, Int.sub_zero, pR_zero] at ht
  repeat (first | (obtain ⟨x, tm', e, ht'⟩ := xAc ht; clear ht; subst e; have ht := ht'; clear ht') | (obtain ⟨tm', e, ht'⟩ := xAa ht; clear ht; subst e; have ht := ht'; clear ht'))
  obtain rfl := xAe ht
  clear ht
  go_wp2_with (fail)
  go_ret
  exact ⟨rfl, hR.weaken (List.sublist_cons_self _ _)⟩
theorem exp_num {bm : Nat} {m : Nat} (hm : (bm, Obj.cells (nl m).toArray 24) ∈ L) {a b r : Nat} (ha : a < m) (hb : b < m) (hs : m < B) (hr : mulN a b m = r) (hR : Rep B0 w0 L w) :
  Calls Tryz.prog 219 #[num a, num b, .pointer (some ⟨bm, 0, none⟩)] w fun e w' => e = .returned (num r) ∧ Rep B0 w0 L w' := by
 have w1 := fun w => xIi a b m ha hb hs w
 rw [hr] at w1
 clear hr
 go_enter Tryz.func219, Tryz.ntmps219
 go_wp2_with (first | (refine' aAq hR ?_; clear hR; intro blk w hR) | (refine' aBq hR ?_; clear hR; intro blk w hR) | (refine' aNq hR ?_) | (refine' aFq hR ?_; clear hR; intro w hR) | (go_at_call 207; refine (w1 _).mono ?_; rintro e w ⟨rfl, hb⟩; replace hR := hR.call hb; clear hb))
 (refine' bodyPost_ret (xAq Tryz.results219 rfl (hR.loadAll (P := Tryz.prog) (ty := 24) ?hm ?hn)) rfl ⟨rfl, hR.weaken (List.sublist_append_right [_, _, _] L)⟩; (case hm => exact List.Mem.head _); (case hn => rfl))
theorem power_num {bm : Nat} {m : Nat} (hm : (bm, Obj.cells (nl m).toArray 24) ∈ L) (a n : Nat) (ha : a < m) (hn : n < B) (h1 : 1 < m) (hs : m < B) (o : Nat) (ho : o = 1) (hR : Rep B0 w0 L w) :
  Calls Tryz.prog 218 #[num a, num o, num n, .func (.func 219) #[] #[.pointer (some ⟨bm, 0, none⟩)]] w fun e w' => e = .returned (num (powN a n m)) ∧ Rep B0 w0 L w' := by
 have cb := fun w => xGb n hn w
 have hn1 : blen n ≤ 256 := (xBg _ _).mpr (by rw [B_eq] at hn; exact hn)
 have hn2 := xFa n
 generalize blen n = N at *
 have hO := Held.mk ho
 clear ho
 go_enter Tryz.func218, Tryz.ntmps218
 go_wp2_with (first | (refine' aAq hR ?_; clear hR; intro blk w hR) | (refine' aBq hR ?_; clear hR; intro blk w hR) | (refine' aNq hR ?_) | (refine' aFq hR ?_; clear hR; intro w hR) | (go_at_call 169; refine (cb _).mono ?_; rintro e w ⟨rfl, hb⟩; replace hR := hR.call hb; clear hb))
 rename_i b1 _ b2 _ b3 _ b4 _ _ _ K0 k0
 have e0 : pR a n m N = o := by rw [pR_top h1 hn2, hO.out]
 refine' xBm (false :: false :: false :: false :: false :: false :: false :: false :: false :: false :: true :: false :: false :: false :: false :: true :: true :: true :: true :: true :: true :: true :: true :: true :: true :: true :: true :: true :: true :: true :: true :: true :: true :: true :: false :: []) (fun j l => l.set 14 (.int .i64 ((N : Int) - (j : Int)))) (fun j => (blk, .cells (nl (pR a n m j)).toArray 24) :: (b4, .cells (nl 0).toArray 24) :: (b3, .cells (nl n).toArray 24) :: (b2, .cells (nl o).toArray 24) :: (b1, .cells (nl a).toArray 24) :: L) N ?h0 ?hR ?hs ?he
 case hR =>
  show Rep _ _ ((_, .cells (nl (pR a n m N)).toArray _) :: _) _
  rw [e0, ← xDf]
  exact hR
 case h0 =>
  simp only [Int.sub_self]
  exact xAf rfl rfl rfl
 case hs =>
  clear hR k0 e0
  intro j tm w hj ht hR K hK
  repeat (first | (obtain ⟨x, tm', e, ht'⟩ := xAc ht; clear ht; subst e; have ht := ht'; clear ht') | (obtain ⟨tm', e, ht'⟩ := xAa ht; clear ht; subst e; have ht := ht'; clear ht'))
  obtain rfl := xAe ht
  clear ht
  obtain ⟨T, hT, hbit⟩ := xHu a n m j
  have hP := pR_lt h1 a n (j + 1)
  have lT : T < m := by rw [← hT, xCm]; exact Nat.mod_lt _ (by omega)
  have cbit := fun w => bit_any n (j : Int) hn w
  rw [xDj n j (by omega)] at cbit
  generalize pR a n m (j + 1) = R at *
  generalize hk : (N : Int) - ((j + 1 : Nat) : Int) = k
  have k0 : 0 ≤ k := by omega
  have k1 : k < N := by omega
  have ki : (N : Int) - 1 - k = j := by omega
  have kn : k + 1 = (N : Int) - j := by omega
  have kb : (N : Int) ≤ 256 := by omega
  have kN : IntKind.i64.wrap ((N : Int) - 1) = (N : Int) - 1 := by rw [IntKind.wrap_i64]; omega
  have kj : IntKind.i64.wrap (j : Int) = (j : Int) := by rw [IntKind.wrap_i64]; omega
  have kj0 : 0 ≤ (j : Int) := by omega
  have kj1 : (j : Int) < 256 := by omega
  clear hk hn2
  have hT := Held.mk hT
  rcases hbit with ⟨hb, hS⟩ | ⟨hb, hS⟩
  ·rw [hb] at cbit
   rw [hS] at hK
   clear hb hS
   go_wp2_with (first | (refine' aNq hR ?_) | (refine' aFq hR ?_; clear hR; intro w hR) | (go_at_call 219; refine (exp_num (.tail _ (.tail _ (.tail _ (.tail _ (.tail _ hm))))) hP hP hs hT.out hR).mono ?_; clear hR; rintro e w ⟨rfl, hR⟩))
   refine xAd hR [0, 0, 0, 0, 0, 0, 0, 0] [] xBd (by kernel_rfl) rfl rfl (fun K hK => ?_)
   clear hR
   repeat ((first | (refine' xAj (by decide) rfl (.inl rfl) rfl ?ha ?_) | (refine' aOq ?ha ?_) | ((refine' xAm (by decide) rfl rfl rfl rfl (fun w => ?hq) ?ha ?_); (case hq => go_simp; try rfl)) | (refine' xAk rfl rfl rfl (xAi Tryz.func169 (by kernel_rfl) (by kernel_rfl) _) (fun w => cb w) ?ha ?_) | (refine' xAk rfl rfl rfl (xAi Tryz.func231 (by kernel_rfl) (by kernel_rfl) _) (fun w => cbit w) ?ha ?_)); try (case ha => simp only [kP, kQ, kA, kB]; try rfl))
   refine xAo (hK _ _ ?_)
   clear hK K
   refine xAr (fun Q hQ => ?_)
   try simp only [List.nil_append, List.cons_append]
   repeat ((fail); (case hk => intro p hp; first | exact absurd hp List.not_mem_nil | (obtain rfl := List.mem_singleton.1 hp; repeat (first | exact List.Mem.head _ | with_reducible assumption | apply mC))); (case ha => simp only [kP, kQ, kA, kB]; try rfl))
   refine xAs (fun w hR => hQ _ _ ?_)
   clear hQ Q
   go_wp2_with (fail)
   exact hK.out _ _ (xAf rfl rfl rfl) hR
  ·rw [hb] at cbit
   have hS := Held.mk hS
   clear hb
   go_wp2_with (first | (refine' aNq hR ?_) | (refine' aFq hR ?_; clear hR; intro w hR) | (go_at_call 219; refine (exp_num (.tail _ (.tail _ (.tail _ (.tail _ (.tail _ hm))))) hP hP hs hT.out hR).mono ?_; clear hR; rintro e w ⟨rfl, hR⟩))
   refine xAd hR [0, 0, 0, 0, 0, 0, 0, 0] [] xBd (by kernel_rfl) rfl rfl (fun K hK => ?_)
   clear hR
   repeat ((first | (refine' xAj (by decide) rfl (.inl rfl) rfl ?ha ?_) | (refine' aOq ?ha ?_) | ((refine' xAm (by decide) rfl rfl rfl rfl (fun w => ?hq) ?ha ?_); (case hq => go_simp; try rfl)) | (refine' xAk rfl rfl rfl (xAi Tryz.func169 (by kernel_rfl) (by kernel_rfl) _) (fun w => cb w) ?ha ?_) | (refine' xAk rfl rfl rfl (xAi Tryz.func231 (by kernel_rfl) (by kernel_rfl) _) (fun w => cbit w) ?ha ?_)); try (case ha => simp only [kP, kQ, kA, kB]; try rfl))
   refine xAo (hK _ _ ?_)
   clear hK K
   refine xAr (fun Q hQ => ?_)
   try simp only [List.nil_append, List.cons_append]
   repeat ((fail); (case hk => intro p hp; first | exact absurd hp List.not_mem_nil | (obtain rfl := List.mem_singleton.1 hp; repeat (first | exact List.Mem.head _ | with_reducible assumption | apply mC))); (case ha => simp only [kP, kQ, kA, kB]; try rfl))
   refine xAs (fun w hR => hQ _ _ ?_)
   clear hQ Q
   go_wp2_with (first | (refine' aNq hR ?_) | (refine' aFq hR ?_; clear hR; intro w hR) | (go_at_call 219; refine (exp_num (.tail _ (.tail _ (.tail _ (.tail _ (.tail _ hm))))) lT ha hs hS.out hR).mono ?_; clear hR; rintro e w ⟨rfl, hR⟩))
   exact hK.out _ _ (xAf rfl rfl rfl) hR
 case he =>
  clear hR
  intro tm w ht hR K
  simp only [Int.natCast_zero, Int.sub_zero] at ht
  repeat (first | (obtain ⟨x, tm', e, ht'⟩ := xAc ht; clear ht; subst e; have ht := ht'; clear ht') | (obtain ⟨tm', e, ht'⟩ := xAa ht; clear ht; subst e; have ht := ht'; clear ht'))
  obtain rfl := xAe ht
  clear ht
  rw [pR_zero] at hR
  go_wp2_with (first | (refine' aNq hR ?_) | (refine' aFq hR ?_; clear hR; intro w hR))
  (refine' bodyPost_ret (xAq Tryz.results218 rfl (hR.loadAll (P := Tryz.prog) (ty := 24) ?hm ?hn)) rfl ⟨rfl, hR.weaken (List.sublist_append_right [_, _, _, _, _] L)⟩; (case hm => exact .tail _ (.head _)); (case hn => rfl))
end
end
section
attribute [local irreducible] Calls
section
variable {B0 : Nat} {w0 w : World} {L : List (Nat × Obj)}
theorem power_num_r {bm : Nat} {m : Nat} (hm : (bm, Obj.cells (nl m).toArray 24) ∈ L) (a n : Nat) (ha : a < m) (hn : n < B) (h1 : 1 < m) (hs : m < B) (o : Nat) (ho : o = 1) {r : Nat} (hr : powN a n m = r) (hR : Rep B0 w0 L w) :
  Calls Tryz.prog 218 #[num a, num o, num n, .func (.func 219) #[] #[.pointer (some ⟨bm, 0, none⟩)]] w fun e w' => e = .returned (num r) ∧ Rep B0 w0 L w' := by
 subst hr
 exact power_num hm a n ha hn h1 hs o ho hR
theorem expm_any {bn : Nat} {n : Nat} (hm : (bn, Obj.cells (nl n).toArray 24) ∈ L) (a b m : Nat) (ha : a < m) (hb : m < B) (h1 : 1 < m) (hn : n < B) (hR : Rep B0 w0 L w) :
  Calls Tryz.prog 214 #[num a, num b, num m, .pointer (some ⟨bn, 0, none⟩)] w fun e w' => e = .returned (num (powN a n m)) ∧ Rep B0 w0 L w' := by
 have cb := fun w => xGb m hb w
 obtain ⟨r, hr⟩ : ∃ r, powN a n m = r := ⟨_, rfl⟩
 have lr : r < m := by rw [← hr, powN_def]; exact Nat.mod_lt _ (by omega)
 by_cases hs : m < 18446744073709551616
 ·have hl : (blen m : Int) ≤ 64 := by
   have := (xBg m 64).mpr hs
   omega
  have ea : wd a 0 = (a : Int) := by rw [xFm]; unfold w64; omega
  replace ea := Held.mk ea
  have o1 := fun w => xFh r (by omega) w
  rw [hr]
  replace hr := Held.mk hr
  generalize (blen m : Int) = bl at *
  clear lr
  go_enter Tryz.func214, Tryz.ntmps214
  go_wp2_with (first | (refine' aAq hR ?_; clear hR; intro blk w hR) | (refine' aBq hR ?_; clear hR; intro blk w hR) | (refine' aNq hR ?_) | (refine' aMq hR ?_) | (refine' aFq hR ?_; clear hR; intro w hR) | (go_at_call 169; refine (cb _).mono ?_; rintro e w ⟨rfl, hb⟩; replace hR := hR.call hb; clear hb) | (go_at_call 215; rw [ea.out]; refine (power_word (.tail _ (.head _)) a n ha hn h1 hs hR).mono ?_; clear hR; rw [hr.out]; rintro e w ⟨rfl, hR⟩) | (go_at_call 171; refine (o1 _).mono ?_; rintro e w ⟨rfl, hb⟩; replace hR := hR.call hb; clear hb))
  (refine' bodyPost_ret (xAq Tryz.results214 rfl (hR.loadAll (P := Tryz.prog) (ty := 24) ?hm ?hn)) rfl ⟨rfl, hR.weaken (List.sublist_append_right [_, _, _, _] L)⟩; (case hm => exact .head _); (case hn => rfl))
 ·have hl : ¬ (blen m : Int) ≤ 64 := fun h => hs ((xBg m 64).mp (by omega))
  obtain ⟨n1, hn1⟩ : ∃ n, n = 1 := ⟨_, rfl⟩
  have o1 : ∀ w, Calls Tryz.prog 171 #[.int .u64 1] w fun e w' => e = .returned (num n1) ∧ Below w.heap.size w w' := fun w => by
   rw [hn1]; exact xFh 1 (by decide) w
  replace hn1 := Held.mk hn1
  rw [hr]
  replace hr := Held.mk hr
  generalize (blen m : Int) = bl at *
  clear lr hs
  go_enter Tryz.func214, Tryz.ntmps214
  go_wp2_with (first | (refine' aAq hR ?_; clear hR; intro blk w hR) | (refine' aBq hR ?_; clear hR; intro blk w hR) | (refine' aNq hR ?_) | (go_at_call 169; refine (cb _).mono ?_; rintro e w ⟨rfl, hb⟩; replace hR := hR.call hb; clear hb))
  refine xAd hR [0, 0, 0, 0, 0, 2] [] xBd (by kernel_rfl) rfl rfl (fun K hK => ?_)
  clear hR
  repeat ((first | (refine xAp ?_) | (refine' aOq ?ha ?_) | (refine' xAk rfl rfl rfl (xAi Tryz.func171 (by kernel_rfl) (by kernel_rfl) _) (fun w => o1 w) ?ha ?_) | (refine' xGs (by decide) rfl rfl rfl rfl ?ha ?_; (case ha => simp only [kP, kQ, kA, kB]; try rfl)) | (refine' xEu rfl rfl rfl (xAi Tryz.func218 (by kernel_rfl) (by kernel_rfl) _) (fun w hw => power_num_r (mT _ (List.Mem.head _)) a n ha hn h1 hb n1 hn1.out hr.out hw) ?ha ?_)); try (case ha => simp only [kP, kQ, kA, kB]; try rfl))
  refine xAo (hK _ _ ?_)
  clear hK K
  refine xAr (fun Q hQ => ?_)
  try simp only [List.nil_append, List.cons_append]
  repeat ((refine' aKq ?hk ?ha ?_); (case hk => intro p hp; first | exact absurd hp List.not_mem_nil | (obtain rfl := List.mem_singleton.1 hp; repeat (first | exact List.Mem.head _ | with_reducible assumption | apply mC))); (case ha => simp only [kP, kQ, kA, kB]; try rfl))
  refine xAs (fun w hR => hQ _ _ ?_)
  clear hQ Q
  go_wp2_with (fail)
  (refine' bodyPost_ret (xAq Tryz.results214 rfl (hR.loadAll (P := Tryz.prog) (ty := 24) ?hm ?hn)) rfl ⟨rfl, hR.weaken (List.sublist_append_right [_, _, _, _] L)⟩; (case hm => exact .head _); (case hn => rfl))
def okE (a m : Nat) : Prop := 1 < m ∧ a < m
instance (a m : Nat) : Decidable (okE a m) := by unfold okE; infer_instance
theorem deed_exp {bn : Nat} {n : Nat} (hmem : (bn, Obj.cells (nl n).toArray 24) ∈ L) (a m : Nat) (ha : a < B) (hm : m < B) (hn : n < B) (hR : Rep B0 w0 L w) :
  Calls Tryz.prog 205 #[.agg #[.func (.func 214) #[] #[.pointer (some ⟨bn, 0, none⟩)]], num a, num a, num m] w fun e w' =>
  e = .returned (.tuple #[num (if okE a m then powN a n m else 0), .int .i64 (if okE a m then 0 else 1)]) ∧ Rep B0 w0 L w' := by
 obtain ⟨n1, hn1⟩ : ∃ n, n = 1 := ⟨_, rfl⟩
 have o1 : ∀ w, Calls Tryz.prog 171 #[.int .u64 1] w fun e w' => e = .returned (num n1) ∧ Below w.heap.size w w' := fun w => by
  rw [hn1]; exact xFh 1 (by decide) w
 have L1 : n1 < B := lt_B (by omega)
 have c1 := xDg hm L1 rfl
 have c2 := xDg ha hm rfl
 have k1 := xHi m n1
 have k2 := xFv a m
 by_cases ok : okE a m
 ·rw [if_pos ok, if_pos ok]
  have hb1 := ok.1
  have hb2 := ok.2
  obtain ⟨r, hr⟩ : ∃ r, powN a n m = r := ⟨_, rfl⟩
  rw [hr]
  replace hr := Held.mk hr
  have j1 : ¬ cmpN m n1 ≤ 0 := fun h => by have := k1.mp h; have := ok.1; omega
  have j2 : ¬ 0 ≤ cmpN a m := fun h => by have := k2.mp h; have := ok.2; omega
  generalize cmpN m n1 = x1 at *
  generalize cmpN a m = x2 at *
  have q1 : decide (x1 ≤ 0) = false := decide_eq_false j1
  have q2 : decide (0 ≤ x2) = false := decide_eq_false j2
  replace hb1 := Held.mk hb1
  replace hb2 := Held.mk hb2
  clear k1 k2 ok L1 hn1 j1 j2
  go_enter Tryz.func205, Tryz.ntmps205
  go_wp2_with (first | (refine' aAq hR ?_; clear hR; intro blk w hR) | (refine' aBq hR ?_; clear hR; intro blk w hR))
  refine xAd hR [0, 0, 0, 0, 0, 0, 0, 0, 0, 0, 0, 0, 0, 0, 0, 0] [] xBd (by kernel_rfl) rfl rfl (fun K hK => ?_)
  clear hR
  repeat ((first | (refine' xAj (by decide) rfl (.inl rfl) rfl ?ha ?_) | (refine' aOq ?ha ?_) | ((refine' xAm (by decide) rfl rfl rfl rfl (fun w => ?hq) ?ha ?_); (case hq => go_simp; try rfl)) | (refine' xBh (by decide) rfl rfl rfl rfl ?ha ?_) | (refine' xAk rfl rfl rfl (xAi Tryz.func171 (by kernel_rfl) (by kernel_rfl) _) (fun w => o1 w) ?ha ?_) | (refine' xAk rfl rfl rfl (xAi Tryz.func183 (by kernel_rfl) (by kernel_rfl) _) (fun w => c1 w) ?ha ?_) | (refine' xAk rfl rfl rfl (xAi Tryz.func183 (by kernel_rfl) (by kernel_rfl) _) (fun w => c2 w) ?ha ?_)); try (case ha => simp only [kP, kQ, kA, kB]; try rfl))
  refine xAo (hK _ _ ?_)
  clear hK K
  refine xAr (fun Q hQ => ?_)
  try simp only [List.nil_append, List.cons_append]
  repeat ((fail); (case hk => intro p hp; first | exact absurd hp List.not_mem_nil | (obtain rfl := List.mem_singleton.1 hp; repeat (first | exact List.Mem.head _ | with_reducible assumption | apply mC))); (case ha => simp only [kP, kQ, kA, kB]; try rfl))
  refine xAs (fun w hR => hQ _ _ ?_)
  clear hQ Q
  go_wp2_with (first | (refine' aNq hR ?_) | (refine' aMq hR ?_) | (refine' aFq hR ?_; clear hR; intro w hR) | (go_at_call 214; refine (expm_any (by repeat (first | exact hmem | apply mC)) a a m hb2.out hm hb1.out hn hR).mono ?_; clear hR; rw [hr.out]; rintro e w ⟨rfl, hR⟩))
  (refine' bodyPost_ret (xAh Tryz.results205 rfl (hR.loadAll (P := Tryz.prog) (ty := 24) ?hm ?hn)) rfl ⟨rfl, hR.weaken (List.sublist_append_right [_, _, _, _, _] L)⟩; (case hm => exact .head _); (case hn => rfl))
 ·rw [if_neg ok, if_neg ok]
  have hc : decide (cmpN m n1 ≤ 0) = true ∨ (decide (cmpN m n1 ≤ 0) = false ∧ decide (0 ≤ cmpN a m) = true) := by
   simp only [decide_eq_true_iff, decide_eq_false_iff_not]
   rw [k1, k2]
   unfold okE at ok
   omega
  generalize cmpN m n1 = x1 at *
  generalize cmpN a m = x2 at *
  clear k1 k2 ok L1 hn1
  rcases hc with j1 | ⟨j1, j2⟩
  all_goals
   go_enter Tryz.func205, Tryz.ntmps205
   go_wp2_with (first | (refine' aAq hR ?_; clear hR; intro blk w hR) | (refine' aBq hR ?_; clear hR; intro blk w hR))
   refine xAd hR [0, 0, 0, 0, 0, 0, 0, 0, 0, 0, 0, 0, 0, 0, 0, 0] [] xBd (by kernel_rfl) rfl rfl (fun K hK => ?_)
   clear hR
   repeat ((first | (refine' xAj (by decide) rfl (.inl rfl) rfl ?ha ?_) | (refine' aOq ?ha ?_) | ((refine' xAm (by decide) rfl rfl rfl rfl (fun w => ?hq) ?ha ?_); (case hq => go_simp; try rfl)) | (refine' xBh (by decide) rfl rfl rfl rfl ?ha ?_) | (refine' xCe (by decide) rfl ?ha ?_) | (refine' xAk rfl rfl rfl (xAi Tryz.func171 (by kernel_rfl) (by kernel_rfl) _) (fun w => o1 w) ?ha ?_) | (refine' xAk rfl rfl rfl (xAi Tryz.func183 (by kernel_rfl) (by kernel_rfl) _) (fun w => c1 w) ?ha ?_) | (refine' xAk rfl rfl rfl (xAi Tryz.func183 (by kernel_rfl) (by kernel_rfl) _) (fun w => c2 w) ?ha ?_)); try (case ha => simp only [kP, kQ, kA, kB]; try rfl))
   refine xAo (hK _ _ ?_)
   clear hK K
   refine xAr (fun Q hQ => ?_)
   try simp only [List.nil_append, List.cons_append]
   repeat ((fail); (case hk => intro p hp; first | exact absurd hp List.not_mem_nil | (obtain rfl := List.mem_singleton.1 hp; repeat (first | exact List.Mem.head _ | with_reducible assumption | apply mC))); (case ha => simp only [kP, kQ, kA, kB]; try rfl))
   refine xAs (fun w hR => hQ _ _ ?_)
   clear hQ Q
   go_wp2_with (refine' aFq hR ?_; clear hR; intro w hR)
   (refine' bodyPost_ret (xAh Tryz.results205 rfl (hR.loadAll (P := Tryz.prog) (ty := 24) ?hm ?hn)) rfl ⟨?_, hR.weaken (List.sublist_append_right [_, _, _, _, _] L)⟩; (case hm => exact .head _); (case hn => rfl))
   rw [xBe]
   rfl
end
theorem mods_exp (a n m : Nat) (ha : a < B) (hn : n < B) (hm : m < B) (w : World) : Calls Tryz.prog 182 #[num a, num n, num m] w fun e w' =>
  e = .returned (.tuple #[num (if okE a m then powN a n m else 0), .int .i64 (if okE a m then 0 else 1)]) ∧ Below w.heap.size w w' := by
 obtain ⟨res, hres⟩ : ∃ res, (if okE a m then powN a n m else 0) = res := ⟨_, rfl⟩
 obtain ⟨er, her⟩ : ∃ er, (if okE a m then (0 : Int) else 1) = er := ⟨_, rfl⟩
 rw [hres, her]
 replace hres := Held.mk hres
 replace her := Held.mk her
 have hR := Rep.init w
 go_enter Tryz.func182, Tryz.ntmps182
 go_wp2_with (first | (refine' aAq hR ?_; clear hR; intro blk w hR) | (refine' aBq hR ?_; clear hR; intro blk w hR) | (refine' aNq hR ?_) | (refine' aFq hR ?_; clear hR; intro w hR) | (go_at_call 205; refine (deed_exp (.tail _ (.tail _ (.head _))) a m ha hm hn hR).mono ?_; clear hR; rw [hres.out, her.out]; rintro e w ⟨rfl, hR⟩))
 (refine' bodyPost_ret (xAh Tryz.results182 rfl (hR.loadAll (P := Tryz.prog) (ty := 24) ?hm ?hn)) rfl ⟨?_, hR.below⟩; (case hm => first | with_reducible assumption | repeat (first | exact .head _ | with_reducible assumption | apply mC)); (case hn => first | rfl | simp))
 rfl
end
end Go.Proofs.YtaaahfjpnggkbaaGreatDoor
