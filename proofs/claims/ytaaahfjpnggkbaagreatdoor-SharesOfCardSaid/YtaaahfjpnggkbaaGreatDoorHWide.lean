import Derived.Test.YtaaahfjpnggkbaaGreatDoorHD
set_option linter.unusedSimpArgs false
set_option linter.unusedVariables false
set_option maxRecDepth 100000
set_option maxHeartbeats 20000000
namespace Go.Proofs.YtaaahfjpnggkbaaGreatDoor
open Go.RowKit
noncomputable def nl2 (a b : Nat) : List Value := [.int .u64 (wd a 0), .int .u64 (wd a 1), .int .u64 (wd a 2), .int .u64 (wd a 3), .int .u64 (wd b 0), .int .u64 (wd b 1), .int .u64 (wd b 2), .int .u64 (wd b 3)]
theorem build_two (a b : Nat) (w : World) : (Instr.build 279 #[(0, .agg (nl a).toArray), (1, .agg (nl b).toArray)]).run Tryz.prog w = .ok (.agg (nl2 a b).toArray) w := by unfold nl nl2; kernel_rfl
@[go_sem] theorem index_two0 (a b : Nat) (w : World) : (Instr.index 279 (.agg (nl2 a b).toArray) (.int .i64 0)).run Tryz.prog w = .ok (.agg (nl a).toArray) w := by unfold nl nl2; kernel_rfl
@[go_sem] theorem index_two1 (a b : Nat) (w : World) : (Instr.index 279 (.agg (nl2 a b).toArray) (.int .i64 1)).run Tryz.prog w = .ok (.agg (nl b).toArray) w := by unfold nl nl2; kernel_rfl
theorem xIs {P : Program} {ops : Array Oper} {rest : List Oper} {o : Oper} {a : Act} {w : World} {Q : Exit → Act → World → Prop} (hg : o.guard = none) {t : TypeId} {parts : Array (Nat × Operand)} (ho : o.op = .build t parts) {v : Value}
  (hrun : (Instr.build t (parts.map fun p => (p.1, a.eval p.2))).run P w = .ok v w) (h : wpList P ops Q rest (a.put o.dst v) w) : wpList P ops Q (o :: rest) a w :=
 wpList_plain hg fun _ hK => by
  unfold Oper.wp execOp
  simp only [ho, Sem.run_bind, Sem.run_pure, Result.andThen_ok, hrun]
  exact hK _ _ h
noncomputable def widN : Nat → Nat → Nat → Nat := opq fun low high m => if m = 0 then 0 else (high * B + low) % m
theorem xFn (low high m : Nat) : widN low high m = if m = 0 then 0 else (high * B + low) % m := by unfold widN; rw [xBs]
noncomputable def rW : Nat → Nat → Nat → Nat → Nat := opq fun m r a j => (r * 2 ^ (256 - j) + a / 2 ^ j) % m
theorem rW_def (m r a j : Nat) : rW m r a j = (r * 2 ^ (256 - j) + a / 2 ^ j) % m := by unfold rW; rw [xBs]
theorem B_pow : B = 2 ^ 256 := by rw [B_eq]
theorem rW_top {m r a : Nat} (hr : r < m) (ha : a < B) : rW m r a 256 = r := by
 rw [rW_def, Nat.div_eq_of_lt (by rw [← B_pow]; exact ha), Nat.sub_self, Nat.pow_zero, Nat.mul_one, Nat.add_zero, Nat.mod_eq_of_lt hr]
theorem rW_zero (m r a : Nat) : rW m r a 0 = (r * B + a) % m := by
 rw [rW_def, Nat.sub_zero, Nat.pow_zero, Nat.div_one, B_pow]
theorem rW_lt {m : Nat} (h : m ≠ 0) (r a j : Nat) : rW m r a j < m := by rw [rW_def]; exact Nat.mod_lt _ (by omega)
theorem xGk (m r a j : Nat) (hm : m ≠ 0) (hj : j < 256) : ∃ bit S : Nat, bit < 2 ∧ a / 2 ^ j % 2 = bit ∧ (2 * rW m r a (j + 1) + bit) % m = rW m r a j ∧ (2 * rW m r a (j + 1) + bit) / m = S := by
 refine ⟨_, _, Nat.mod_lt _ (by decide), rfl, ?_, rfl⟩
 rw [rW_def, rW_def]
 have hA : a / 2 ^ j = 2 * (a / 2 ^ (j + 1)) + a / 2 ^ j % 2 := by
  rw [Nat.pow_succ, ← Nat.div_div_eq_div_mul]; omega
 have hp : 2 ^ (256 - j) = 2 * 2 ^ (256 - (j + 1)) := by
  rw [show 256 - j = (256 - (j + 1)) + 1 by omega, Nat.pow_succ, Nat.mul_comm]
 generalize a / 2 ^ (j + 1) = A at *
 generalize a / 2 ^ j % 2 = bit at *
 generalize 2 ^ (256 - (j + 1)) = p at *
 rw [hA, hp, show r * (2 * p) + (2 * A + bit) = 2 * (r * p + A) + bit by grind]
 rw [Nat.add_mod, Nat.mul_mod, Nat.mod_mod, ← Nat.mul_mod, ← Nat.add_mod]
theorem wide_fin {low high m : Nat} (h : m ≠ 0) : (high % m * B + low) % m = widN low high m := by
 rw [xFn, if_neg h, Nat.add_mod, Nat.mul_mod, Nat.mod_mod, ← Nat.mul_mod, ← Nat.add_mod]
theorem Rep.second {B0 : Nat} {w0 : World} {p q : Nat × Obj} {L : List (Nat × Obj)} {w : World} (h : Rep B0 w0 (p :: q :: L) w) : Rep B0 w0 (p :: L) w :=
 ⟨h.below, h.le, fun r hr => h.own r (by
  rcases List.mem_cons.1 hr with rfl | hr
  ·exact .head _
  ·exact .tail _ (.tail _ hr)), by
  have := h.uniq
  simp only [List.map_cons, List.nodup_cons, List.mem_cons, not_or] at this ⊢
  exact ⟨this.1.2, this.2.2⟩⟩
theorem wide_long (low high m : Nat) (hl : low < B) (hh : high < B) (hm : m < B) (hs : ¬ m < 18446744073709551616) (w : World) : Calls Tryz.prog 227 #[num low, num high, num m] w fun e w' =>
  e = .returned (.tuple #[num (widN low high m), .int .i64 0]) ∧ Below w.heap.size w w' := by
 have h0 : m ≠ 0 := by omega
 have z := xDq hm xEy h0
 have hR := Rep.init w
 go_enter Tryz.func227, Tryz.ntmps227
 go_wp2_with (first | (refine' aAq hR ?_; clear hR; intro blk w hR) | (refine' aBq hR ?_; clear hR; intro blk w hR) | (refine' aEq hR ?_) | (go_at_call 228; refine (xHr m hm _).mono ?_; rintro e w ⟨rfl, hb⟩; replace hR := hR.call hb; clear hb) | (refine' xIs (t := 279) rfl rfl ?hrun ?_; (case hrun => simp only [List.map_toArray, List.map_cons, List.map_nil]; exact build_two high low _)))
 refine wp_loop_rounds 3 ?_
 rw [rounds_succ]
 go_wp2_with (first | (refine' aBq hR ?_; clear hR; intro blk w hR) | (refine' aFq hR ?_; clear hR; intro w hR))
 rename_i b3 _ b4 _ b5 _ b6 _ _ K1 k1 K2 k2 _
 have h00 : 0 < m := by omega
 refine' xBm (false :: false :: false :: false :: false :: false :: false :: false :: false :: false :: false :: false :: false :: true :: false :: false :: false :: false :: false :: false :: false :: false :: false :: false :: false :: false :: false :: false :: false :: false :: false :: false :: false :: false :: false :: false :: false :: false :: false :: false :: false :: false :: false :: false :: false :: false :: false :: false :: true :: true :: true :: true :: true :: true :: true :: true :: true :: true :: true :: true :: true :: false :: false :: []) (fun j l => l.set 47 (.int .i64 (256 - (j : Int)))) (fun j => [(blk, .cells (nl high).toArray 24), (b6, .cells (nl (rW m 0 high j)).toArray 24), (b5, .cells (nl m).toArray 24), (b4, .cells (nl high).toArray 24), (b3, .cells (nl low).toArray 24)]) 256 ?h0 ?hR ?hs ?he
 case hR =>
  show Rep _ _ (_ :: (_, .cells (nl (rW m 0 high 256)).toArray _) :: _) _
  rw [rW_top (by omega) (by assumption)]
  try rw [← xDf]
  exact hR
 case h0 =>
  exact xAf rfl rfl rfl
 case hs =>
  clear hR k1 k2
  intro j tm w hj ht hR K hK
  repeat (first | (obtain ⟨x, tm', e, ht'⟩ := xAc ht; clear ht; subst e; have ht := ht'; clear ht') | (obtain ⟨tm', e, ht'⟩ := xAa ht; clear ht; subst e; have ht := ht'; clear ht'))
  obtain rfl := xAe ht
  clear ht
  obtain ⟨bit, S, hbit, ebit, er, eS⟩ := xGk m 0 high j h0 hj
  have hRb := rW_lt h0 0 high (j + 1)
  have cbit := fun w => bit_any high (j : Int) (by assumption) w
  rw [xDj high j (by omega), ebit] at cbit
  have cnext := fun w => next_any _ bit m hRb hm hbit w
  rw [er, eS] at cnext
  clear ebit hRb er eS hbit
  generalize rW m 0 high (j + 1) = R at *
  generalize hk : (256 : Int) - ((j + 1 : Nat) : Int) = k
  have k0 : 0 ≤ k := by omega
  have k1 : k < 256 := by omega
  have ki : (255 : Int) - k = j := by omega
  have kn : k + 1 = (256 : Int) - j := by omega
  have kj : IntKind.i64.wrap (j : Int) = (j : Int) := by rw [IntKind.wrap_i64]; omega
  have kj0 : 0 ≤ (j : Int) := by omega
  have kj1 : (j : Int) < 256 := by omega
  clear hk
  go_wp2_with (fail)
  refine xAd hR [0, 0, 0, 0, 0, 0, 0, 0, 0, 1, 2] [] xBd (by kernel_rfl) rfl rfl (fun K hK => ?_)
  clear hR
  repeat ((first | (refine xAp ?_) | (refine' xAj (by decide) rfl (.inl rfl) rfl ?ha ?_) | (refine' aIq ?ha ?_) | ((first | refine' xAm (by decide) rfl rfl rfl rfl (fun w => ?hq) ?ha ?_ | refine' xAt (by decide) rfl rfl rfl (fun w => ?hq) ?ha ?_); (case hq => go_simp; try rfl)) | (refine' xAk rfl rfl rfl (xAi Tryz.func231 (by kernel_rfl) (by kernel_rfl) _) (fun w => cbit w) ?ha ?_) | (refine' xAk rfl rfl rfl (xAi Tryz.func230 (by kernel_rfl) (by kernel_rfl) _) (fun w => cnext w) ?ha ?_)); try (case ha => simp only [kP, kQ, kA, kB]; try rfl))
  refine xAo (hK _ _ ?_)
  clear hK K
  refine xAr (fun Q hQ => ?_)
  try simp only [List.nil_append, List.cons_append]
  repeat ((refine' aKq ?hk ?ha ?_); (case hk => intro p hp; first | exact absurd hp List.not_mem_nil | (obtain rfl := List.mem_singleton.1 hp; repeat (first | exact List.Mem.head _ | apply mT))); (case ha => simp only [kP, kQ, kA, kB]; try rfl))
  refine xAs (fun w hR => hQ _ _ ?_)
  clear hQ Q
  go_wp2_with (fail)
  exact hK.out _ _ (xAf rfl rfl rfl) hR
 case he =>
  clear hR
  intro tm w ht hR K
  simp only [Int.natCast_zero, Int.sub_zero] at ht
  repeat (first | (obtain ⟨x, tm', e, ht'⟩ := xAc ht; clear ht; subst e; have ht := ht'; clear ht') | (obtain ⟨tm', e, ht'⟩ := xAa ht; clear ht; subst e; have ht := ht'; clear ht'))
  obtain rfl := xAe ht
  clear ht
  rw [rW_zero] at hR
  rw [Nat.zero_mul, Nat.zero_add] at hR
  have r1 : high % m < m := Nat.mod_lt _ (by omega)
  go_wp2_with (fail)
  rw [rounds_succ]
  go_wp2_with (first | (refine' aBq hR ?_; clear hR; intro blk w hR) | (refine' aFq hR ?_; clear hR; intro w hR))
  replace hR := hR.second
  rename_i K3 k3 K4 k4 _
  refine' xBm (false :: false :: false :: false :: false :: false :: false :: false :: false :: false :: false :: false :: false :: true :: false :: false :: false :: false :: false :: false :: false :: false :: false :: false :: false :: false :: false :: false :: false :: false :: false :: false :: false :: false :: false :: false :: false :: false :: false :: false :: false :: false :: false :: false :: false :: false :: false :: false :: true :: true :: true :: true :: true :: true :: true :: true :: true :: true :: true :: true :: true :: false :: false :: []) (fun j l => l.set 47 (.int .i64 (256 - (j : Int)))) (fun j => [(blk, .cells (nl low).toArray 24), (b6, .cells (nl (rW m (high % m) low j)).toArray 24), (b5, .cells (nl m).toArray 24), (b4, .cells (nl high).toArray 24), (b3, .cells (nl low).toArray 24)]) 256 ?h0 ?hR ?hs ?he
  case hR =>
   show Rep _ _ (_ :: (_, .cells (nl (rW m (high % m) low 256)).toArray _) :: _) _
   rw [rW_top (by omega) (by assumption)]
   exact hR
  case h0 =>
   exact xAf rfl rfl rfl
  case hs =>
   clear hR k1 k3 k4
   intro j tm w hj ht hR K hK
   repeat (first | (obtain ⟨x, tm', e, ht'⟩ := xAc ht; clear ht; subst e; have ht := ht'; clear ht') | (obtain ⟨tm', e, ht'⟩ := xAa ht; clear ht; subst e; have ht := ht'; clear ht'))
   obtain rfl := xAe ht
   clear ht
   obtain ⟨bit, S, hbit, ebit, er, eS⟩ := xGk m (high % m) low j h0 hj
   have hRb := rW_lt h0 (high % m) low (j + 1)
   have cbit := fun w => bit_any low (j : Int) (by assumption) w
   rw [xDj low j (by omega), ebit] at cbit
   have cnext := fun w => next_any _ bit m hRb hm hbit w
   rw [er, eS] at cnext
   clear ebit hRb er eS hbit
   generalize rW m (high % m) low (j + 1) = R at *
   generalize hk : (256 : Int) - ((j + 1 : Nat) : Int) = k
   have k0 : 0 ≤ k := by omega
   have k1' : k < 256 := by omega
   have ki : (255 : Int) - k = j := by omega
   have kn : k + 1 = (256 : Int) - j := by omega
   have kj : IntKind.i64.wrap (j : Int) = (j : Int) := by rw [IntKind.wrap_i64]; omega
   have kj0 : 0 ≤ (j : Int) := by omega
   have kj1 : (j : Int) < 256 := by omega
   clear hk
   go_wp2_with (fail)
   refine xAd hR [0, 0, 0, 0, 0, 0, 0, 0, 0, 1, 2] [] xBd (by kernel_rfl) rfl rfl (fun K hK => ?_)
   clear hR
   repeat ((first | (refine xAp ?_) | (refine' xAj (by decide) rfl (.inl rfl) rfl ?ha ?_) | (refine' aIq ?ha ?_) | ((first | refine' xAm (by decide) rfl rfl rfl rfl (fun w => ?hq) ?ha ?_ | refine' xAt (by decide) rfl rfl rfl (fun w => ?hq) ?ha ?_); (case hq => go_simp; try rfl)) | (refine' xAk rfl rfl rfl (xAi Tryz.func231 (by kernel_rfl) (by kernel_rfl) _) (fun w => cbit w) ?ha ?_) | (refine' xAk rfl rfl rfl (xAi Tryz.func230 (by kernel_rfl) (by kernel_rfl) _) (fun w => cnext w) ?ha ?_)); try (case ha => simp only [kP, kQ, kA, kB]; try rfl))
   refine xAo (hK _ _ ?_)
   clear hK K
   refine xAr (fun Q hQ => ?_)
   try simp only [List.nil_append, List.cons_append]
   repeat ((refine' aKq ?hk ?ha ?_); (case hk => intro p hp; first | exact absurd hp List.not_mem_nil | (obtain rfl := List.mem_singleton.1 hp; repeat (first | exact List.Mem.head _ | apply mT))); (case ha => simp only [kP, kQ, kA, kB]; try rfl))
   refine xAs (fun w hR => hQ _ _ ?_)
   clear hQ Q
   go_wp2_with (fail)
   exact hK.out _ _ (xAf rfl rfl rfl) hR
  case he =>
   clear hR
   intro tm w ht hR K
   simp only [Int.natCast_zero, Int.sub_zero] at ht
   repeat (first | (obtain ⟨x, tm', e, ht'⟩ := xAc ht; clear ht; subst e; have ht := ht'; clear ht') | (obtain ⟨tm', e, ht'⟩ := xAa ht; clear ht; subst e; have ht := ht'; clear ht'))
   obtain rfl := xAe ht
   clear ht
   rw [rW_zero, wide_fin h0] at hR
   go_wp2_with (fail)
   rw [rounds_succ]
   go_wp2_with (first | (refine' aEq hR ?_) | (refine' aFq hR ?_; clear hR; intro w hR))
   (refine' bodyPost_ret (xAh Tryz.results227 rfl (hR.loadAll (P := Tryz.prog) (ty := 24) ?hm ?hn)) rfl ⟨?_, hR.below⟩; (case hm => first | with_reducible assumption | repeat (first | exact .head _ | apply mT)); (case hn => first | rfl | simp))
   rfl
end Go.Proofs.YtaaahfjpnggkbaaGreatDoor
