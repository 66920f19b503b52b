import Derived.Test.YtaaahfjpnggkbaaGreatDoorHZ
import Derived.Test.YtaaahfjpnggkbaaGreatDoorHP
import Derived.Test.YtaaahfjpnggkbaaGreatDoorHScalOf
import Derived.Test.YtaaahfjpnggkbaaGreatDoorHJ
import Derived.Test.YtaaahfjpnggkbaaGreatDoorHR
import Derived.Deep.Cut
set_option linter.unusedSimpArgs false
set_option linter.unusedVariables false
set_option maxRecDepth 100000
set_option maxHeartbeats 20000000
namespace Go.Proofs.YtaaahfjpnggkbaaGreatDoor
open Go.RowKit
section
theorem xBq.app {b : Nat} {o o' : Obj} {L L' : List (Nat × Obj)} (h : xBq L b o o' L') : ∀ M : List (Nat × Obj), xBq (M ++ L) b o o' (M ++ L')
 | [] => h
 | p :: M => xBq.tail (xBq.app h M)
theorem xBq.same {b : Nat} {o : Obj} : ∀ {L L' : List (Nat × Obj)}, xBq L b o o L' → L' = L
  | [], _, h => h.elim
  | p :: L, L', h => by
    rcases h with ⟨rfl, rfl⟩ | ⟨M, h, rfl⟩
    · rfl
    · rw [xBq.same h]
section
variable {P : Program} {ops : Array Oper} {B0 : Nat} {w0 : World} {L L' : List (Nat × Obj)} {r : List Oper} {o : Oper} {a : Act} {Q : Exit → Act → World → Prop} {Kp : List (Nat × Obj)}
theorem tl_call (hw : Region.wanted o (yielded ops a.tmps) = true) {f : FuncId} {xs : List Operand} {us : Array TypeId} (hop : o.op = .call { callee := .value (.func f), args := xs.toArray, argTypes := us }) {vs : List Value} (hx' : evL a xs = some vs)
  (hent : ∀ w, (callFunc f vs.toArray).run P w = .ok (.enter f vs.toArray) w) {v : Value} (hq : ∀ w, Rep B0 w0 L w → Calls P f vs.toArray w fun e w' => e = .returned v ∧ Rep B0 w0 L' w') (hk : ∀ p, p ∈ Kp → p ∈ L')
  {a' : Act} (ha : a.put o.dst v = a') (h : xFe P ops (xDa B0 w0 Kp) Q r (Rep B0 w0 L') a') : xFe P ops (xDa B0 w0 Kp) Q (o :: r) (Rep B0 w0 L) a :=
 ⟨v, _, .inl ⟨hw, fun w hR => by
  have e : (execOp a.eval o).run P w = .ok (.enter f vs.toArray) w := by
   have hx := xCy hx'
   unfold execOp
   simp only [hop, resolve, Deferred.ofValue, Act.eval, Sem.run_bind, Sem.run_pure, Result.andThen_ok, hx]
   have := hent w
   simpa [invoke] using this
  rw [e]
  exact hq w hR⟩, ⟨L', rfl, hk⟩, by rw [ha]; exact h⟩
end
noncomputable def pfl (p q g h : Nat) (e : Int) : List Value := gl p q g h ++ [.int .i64 e]
instance rowPfl : RowT Tryz.prog 79 17 := .mk' (by kernel_rfl) (by kernel_rfl)
theorem pfl_g (p q g h : Nat) (e : Int) : ((pfl p q g h e).drop 0).take 16 = gl p q g h := rfl
theorem pfl_e (p q g h : Nat) (e : Int) : (pfl p q g h e)[16]? = some (.int .i64 e) := rfl
theorem pfl_set (p q g h : Nat) (e e' : Int) : (pfl p q g h e).set 16 (.int .i64 e') = pfl p q g h e' := rfl
theorem pfl_len (p q g h : Nat) (e : Int) : (pfl p q g h e).length = 17 := rfl
def xJp (e er : Int) : Int := if e = 0 then er else e
theorem xKe (p q g h : Nat) (w : World) : (Instr.build 79 #[(0, .agg (gl p q g h).toArray)]).run Tryz.prog w = .ok (.agg (pfl p q g h 0).toArray) w := by
 unfold pfl gl
 kernel_rfl
attribute [local irreducible] Calls Instr.build Instr.buildSlice
section
variable {p q g h : Nat} {fb : Nat} {e er e' : Int} {B0 : Nat} {w0 w : World} {L L' : List (Nat × Obj)}
theorem xKc {a : Nat} (he : xJp e er = e') (hs : xBq L fb (.cells (pfl p q g h e).toArray 79) (.cells (pfl p q g h e').toArray 79) L') (hR : Rep B0 w0 L w) :
  Calls Tryz.prog 124 #[.pointer (some ⟨fb, 0, none⟩), num a, .int .i64 er] w fun en w' => en = .returned (num a) ∧ Rep B0 w0 L' w' := by
 have hm := hs.spec.1
 have te := pfl_e p q g h e
 have ts := pfl_set p q g h e e'
 have tl : 16 < (pfl p q g h e).length := by rw [pfl_len]; decide
 by_cases e0 : e = 0
 ·obtain rfl : er = e' := by rw [← he]; unfold xJp; rw [if_pos e0]
  subst e0
  clear he
  go_enter Tryz.func124, Tryz.ntmps124
  go_wp2_with (first | (refine' aAq hR ?_; clear hR; intro blk w hR) | (refine' aBq hR ?_; clear hR; intro blk w hR) | (refine' aNq hR ?_) | (refine' aMq hR ?_) | (refine' aRq hR ?_; clear hR; intro w hR) | (refine' aUq hR ?_; clear hR; intro w hR))
  (refine' bodyPost_ret (xAq Tryz.results124 rfl (hR.loadAll (P := Tryz.prog) (ty := 24) ?hm ?hn)) rfl ⟨?_, hR.drop1.drop1⟩; (case hm => exact .head _); (case hn => rfl))
  rfl
 ·obtain rfl : e = e' := by rw [← he]; unfold xJp; rw [if_neg e0]
  obtain rfl := hs.same
  have c1 : (e == 0) = false := by simp; exact e0
  clear he hs
  go_enter Tryz.func124, Tryz.ntmps124
  go_wp2_with (first | (refine' aAq hR ?_; clear hR; intro blk w hR) | (refine' aBq hR ?_; clear hR; intro blk w hR) | (refine' aNq hR ?_) | (refine' aMq hR ?_) | (refine' aRq hR ?_; clear hR; intro w hR))
  (refine' bodyPost_ret (xAq Tryz.results124 rfl (hR.loadAll (P := Tryz.prog) (ty := 24) ?hm ?hn)) rfl ⟨?_, hR.drop1.drop1⟩; (case hm => exact .head _); (case hn => rfl))
  rfl
theorem fplus_any {a b r : Nat} (ha : a < B) (hb : b < B) (hq : q < B) (hr : (if okM a b q then (a + b) % q else 0) = r) (her : (if okM a b q then (0 : Int) else 1) = er) (he : xJp e er = e') (hs : xBq L fb (.cells (pfl p q g h e).toArray 79) (.cells (pfl p q g h e').toArray 79) L') (hR : Rep B0 w0 L w) :
  Calls Tryz.prog 33 #[.pointer (some ⟨fb, 0, none⟩), num a, num b] w fun en w' => en = .returned (num r) ∧ Rep B0 w0 L' w' := by
 have hm := hs.spec.1
 have tg := pfl_g p q g h e
 have c1 := sadd_lit (p := p) (g := g) (h := h) ha hb hq hr her
 have ck := fun (M : List (Nat × Obj)) (w : World) (hw : Rep B0 w0 (M ++ L) w) => xKc (a := r) he (hs.app M) hw
 clear hr her he
 go_enter Tryz.func33, Tryz.ntmps33
 go_wp2_with (first | (refine' aAq hR ?_; clear hR; intro blk w hR) | (refine' aBq hR ?_; clear hR; intro blk w hR))
 refine xAd hR [0, 0, 0, 0, 0, 0, 0, 0, 0, 0, 2, 2] [] xBd (by kernel_rfl) rfl rfl (fun K hK => ?_)
 clear hR
 repeat ((first | (refine xAp ?_) | (refine' xAj (by decide) rfl (.inl rfl) rfl ?ha ?_) | (refine' aOq ?ha ?_) | (refine' aSq ?ha ?_) | ((first | refine' xAt (by decide) rfl rfl rfl (fun w => ?hq) ?ha ?_ | refine' xAl (by decide) rfl rfl rfl (fun w => ?hq) ?ha ?_); (case hq => go_simp; try rfl)) | (refine' xAz (by decide) rfl rfl rfl ?ha ?_) | (refine' xAk rfl rfl rfl (xAi Tryz.func125 (by kernel_rfl) (by kernel_rfl) _) (fun w => c1 w) ?ha ?_)); try (case ha => simp only [kP, kQ, kA, kB]; try rfl))
 refine xAo (hK _ _ ?_)
 clear hK K
 refine xAr (fun Q hQ => ?_)
 try simp only [List.nil_append, List.cons_append]
 try simp only [kP, kQ, kA, kB]
 refine' tl_call rfl rfl rfl (xAi Tryz.func124 (by kernel_rfl) (by kernel_rfl) _) (fun w hw => ck [_, _, _] w hw) (fun p hp => absurd hp List.not_mem_nil) rfl ?_
 repeat ((refine' aTq ?hk ?ha ?_); (case hk => intro p hp; first | exact absurd hp List.not_mem_nil | (obtain rfl := List.mem_singleton.1 hp; repeat (first | exact List.Mem.head _ | with_reducible assumption | apply mC))); (case ha => simp only [kP, kQ, kA, kB]; try rfl))
 refine xAs (fun w hR => hQ _ _ ?_)
 clear hQ Q
 go_wp2_with (fail)
 (refine' bodyPost_ret (xAq Tryz.results33 rfl (hR.loadAll (P := Tryz.prog) (ty := 24) ?hm ?hn)) rfl ⟨?_, hR.drop1.drop1.drop1⟩; (case hm => exact .head _); (case hn => rfl))
 rfl
theorem fless_any {a b r : Nat} (ha : a < B) (hb : b < B) (hq : q < B) (hr : (if okM a b q then subN a b q else 0) = r) (her : (if okM a b q then (0 : Int) else 1) = er) (he : xJp e er = e') (hs : xBq L fb (.cells (pfl p q g h e).toArray 79) (.cells (pfl p q g h e').toArray 79) L') (hR : Rep B0 w0 L w) :
  Calls Tryz.prog 128 #[.pointer (some ⟨fb, 0, none⟩), num a, num b] w fun en w' => en = .returned (num r) ∧ Rep B0 w0 L' w' := by
 have hm := hs.spec.1
 have tg := pfl_g p q g h e
 have c1 := ssub_lit (p := p) (g := g) (h := h) ha hb hq hr her
 have ck := fun (M : List (Nat × Obj)) (w : World) (hw : Rep B0 w0 (M ++ L) w) => xKc (a := r) he (hs.app M) hw
 clear hr her he
 go_enter Tryz.func128, Tryz.ntmps128
 go_wp2_with (first | (refine' aAq hR ?_; clear hR; intro blk w hR) | (refine' aBq hR ?_; clear hR; intro blk w hR))
 refine xAd hR [0, 0, 0, 0, 0, 0, 0, 0, 0, 0, 2, 2] [] xBd (by kernel_rfl) rfl rfl (fun K hK => ?_)
 clear hR
 repeat ((first | (refine xAp ?_) | (refine' xAj (by decide) rfl (.inl rfl) rfl ?ha ?_) | (refine' aOq ?ha ?_) | (refine' aSq ?ha ?_) | ((first | refine' xAt (by decide) rfl rfl rfl (fun w => ?hq) ?ha ?_ | refine' xAl (by decide) rfl rfl rfl (fun w => ?hq) ?ha ?_); (case hq => go_simp; try rfl)) | (refine' xAz (by decide) rfl rfl rfl ?ha ?_) | (refine' xAk rfl rfl rfl (xAi Tryz.func193 (by kernel_rfl) (by kernel_rfl) _) (fun w => c1 w) ?ha ?_)); try (case ha => simp only [kP, kQ, kA, kB]; try rfl))
 refine xAo (hK _ _ ?_)
 clear hK K
 refine xAr (fun Q hQ => ?_)
 try simp only [List.nil_append, List.cons_append]
 try simp only [kP, kQ, kA, kB]
 refine' tl_call rfl rfl rfl (xAi Tryz.func124 (by kernel_rfl) (by kernel_rfl) _) (fun w hw => ck [_, _, _] w hw) (fun p hp => absurd hp List.not_mem_nil) rfl ?_
 repeat ((refine' aTq ?hk ?ha ?_); (case hk => intro p hp; first | exact absurd hp List.not_mem_nil | (obtain rfl := List.mem_singleton.1 hp; repeat (first | exact List.Mem.head _ | with_reducible assumption | apply mC))); (case ha => simp only [kP, kQ, kA, kB]; try rfl))
 refine xAs (fun w hR => hQ _ _ ?_)
 clear hQ Q
 go_wp2_with (fail)
 (refine' bodyPost_ret (xAq Tryz.results128 rfl (hR.loadAll (P := Tryz.prog) (ty := 24) ?hm ?hn)) rfl ⟨?_, hR.drop1.drop1.drop1⟩; (case hm => exact .head _); (case hn => rfl))
 rfl
theorem ftimes_any {a b r : Nat} (ha : a < B) (hb : b < B) (hq : q < B) (hr : (if okM a b q then mulN a b q else 0) = r) (her : (if okM a b q then (0 : Int) else 1) = er) (he : xJp e er = e') (hs : xBq L fb (.cells (pfl p q g h e).toArray 79) (.cells (pfl p q g h e').toArray 79) L') (hR : Rep B0 w0 L w) :
  Calls Tryz.prog 34 #[.pointer (some ⟨fb, 0, none⟩), num a, num b] w fun en w' => en = .returned (num r) ∧ Rep B0 w0 L' w' := by
 have hm := hs.spec.1
 have tg := pfl_g p q g h e
 have c1 := smul_lit (p := p) (g := g) (h := h) ha hb hq hr her
 have ck := fun (M : List (Nat × Obj)) (w : World) (hw : Rep B0 w0 (M ++ L) w) => xKc (a := r) he (hs.app M) hw
 clear hr her he
 go_enter Tryz.func34, Tryz.ntmps34
 go_wp2_with (first | (refine' aAq hR ?_; clear hR; intro blk w hR) | (refine' aBq hR ?_; clear hR; intro blk w hR))
 refine xAd hR [0, 0, 0, 0, 0, 0, 0, 0, 0, 0, 2, 2] [] xBd (by kernel_rfl) rfl rfl (fun K hK => ?_)
 clear hR
 repeat ((first | (refine xAp ?_) | (refine' xAj (by decide) rfl (.inl rfl) rfl ?ha ?_) | (refine' aOq ?ha ?_) | (refine' aSq ?ha ?_) | ((first | refine' xAt (by decide) rfl rfl rfl (fun w => ?hq) ?ha ?_ | refine' xAl (by decide) rfl rfl rfl (fun w => ?hq) ?ha ?_); (case hq => go_simp; try rfl)) | (refine' xAz (by decide) rfl rfl rfl ?ha ?_) | (refine' xAk rfl rfl rfl (xAi Tryz.func105 (by kernel_rfl) (by kernel_rfl) _) (fun w => c1 w) ?ha ?_)); try (case ha => simp only [kP, kQ, kA, kB]; try rfl))
 refine xAo (hK _ _ ?_)
 clear hK K
 refine xAr (fun Q hQ => ?_)
 try simp only [List.nil_append, List.cons_append]
 try simp only [kP, kQ, kA, kB]
 refine' tl_call rfl rfl rfl (xAi Tryz.func124 (by kernel_rfl) (by kernel_rfl) _) (fun w hw => ck [_, _, _] w hw) (fun p hp => absurd hp List.not_mem_nil) rfl ?_
 repeat ((refine' aTq ?hk ?ha ?_); (case hk => intro p hp; first | exact absurd hp List.not_mem_nil | (obtain rfl := List.mem_singleton.1 hp; repeat (first | exact List.Mem.head _ | with_reducible assumption | apply mC))); (case ha => simp only [kP, kQ, kA, kB]; try rfl))
 refine xAs (fun w hR => hQ _ _ ?_)
 clear hQ Q
 go_wp2_with (fail)
 (refine' bodyPost_ret (xAq Tryz.results34 rfl (hR.loadAll (P := Tryz.prog) (ty := 24) ?hm ?hn)) rfl ⟨?_, hR.drop1.drop1.drop1⟩; (case hm => exact .head _); (case hn => rfl))
 rfl
theorem funder_any {a r : Nat} (ha : a < B) (hq : q < B) (hr : (if okE a q then invM a q else 0) = r) (her : invE a q = er) (he : xJp e er = e') (hs : xBq L fb (.cells (pfl p q g h e).toArray 79) (.cells (pfl p q g h e').toArray 79) L') (hR : Rep B0 w0 L w) :
  Calls Tryz.prog 127 #[.pointer (some ⟨fb, 0, none⟩), num a] w fun en w' => en = .returned (num r) ∧ Rep B0 w0 L' w' := by
 have hm := hs.spec.1
 have tg := pfl_g p q g h e
 have c1 := sinv_lit (p := p) (g := g) (h := h) ha hq hr her
 have ck := fun (M : List (Nat × Obj)) (w : World) (hw : Rep B0 w0 (M ++ L) w) => xKc (a := r) he (hs.app M) hw
 clear hr her he
 go_enter Tryz.func127, Tryz.ntmps127
 go_wp2_with (first | (refine' aAq hR ?_; clear hR; intro blk w hR) | (refine' aBq hR ?_; clear hR; intro blk w hR))
 refine xAd hR [0, 0, 0, 0, 0, 0, 0, 0, 0, 2, 2] [] xBd (by kernel_rfl) rfl rfl (fun K hK => ?_)
 clear hR
 repeat ((first | (refine xAp ?_) | (refine' xAj (by decide) rfl (.inl rfl) rfl ?ha ?_) | (refine' aOq ?ha ?_) | (refine' aSq ?ha ?_) | ((first | refine' xAt (by decide) rfl rfl rfl (fun w => ?hq) ?ha ?_ | refine' xAl (by decide) rfl rfl rfl (fun w => ?hq) ?ha ?_); (case hq => go_simp; try rfl)) | (refine' xAz (by decide) rfl rfl rfl ?ha ?_) | (refine' xAk rfl rfl rfl (xAi Tryz.func106 (by kernel_rfl) (by kernel_rfl) _) (fun w => c1 w) ?ha ?_)); try (case ha => simp only [kP, kQ, kA, kB]; try rfl))
 refine xAo (hK _ _ ?_)
 clear hK K
 refine xAr (fun Q hQ => ?_)
 try simp only [List.nil_append, List.cons_append]
 try simp only [kP, kQ, kA, kB]
 refine' tl_call rfl rfl rfl (xAi Tryz.func124 (by kernel_rfl) (by kernel_rfl) _) (fun w hw => ck [_, _] w hw) (fun p hp => absurd hp List.not_mem_nil) rfl ?_
 repeat ((refine' aTq ?hk ?ha ?_); (case hk => intro p hp; first | exact absurd hp List.not_mem_nil | (obtain rfl := List.mem_singleton.1 hp; repeat (first | exact List.Mem.head _ | with_reducible assumption | apply mC))); (case ha => simp only [kP, kQ, kA, kB]; try rfl))
 refine xAs (fun w hR => hQ _ _ ?_)
 clear hQ Q
 go_wp2_with (fail)
 (refine' bodyPost_ret (xAq Tryz.results127 rfl (hR.loadAll (P := Tryz.prog) (ty := 24) ?hm ?hn)) rfl ⟨?_, hR.drop1.drop1⟩; (case hm => exact .head _); (case hn => rfl))
 rfl
end
end
section
attribute [local irreducible] Calls Instr.build Instr.buildSlice
section
variable {p q g h : Nat} {fb : Nat} {B0 : Nat} {w0 w : World} {L L' : List (Nat × Obj)} {a : Option Addr} {n cp : Nat} {f : Nat → Nat}
theorem gplus_any (S : Nat → Nat) (E : Nat → Int) (Lf : Int → List (Nat × Obj)) (hA : ∀ e, NAt B0 w0 (Lf e) a n cp f) (hn : n ≤ 1000000)
  (hc : ∀ j, j < n → ∀ (M : List (Nat × Obj)) (w : World), Rep B0 w0 (M ++ Lf (E j)) w → Calls Tryz.prog 33 #[.pointer (some ⟨fb, 0, none⟩), num (S j), num (f j)] w fun en w' => en = .returned (num (S (j + 1))) ∧ Rep B0 w0 (M ++ Lf (E (j + 1))) w')
  (hR : Rep B0 w0 (Lf (E 0)) w) : Calls Tryz.prog 36 #[num (S 0), .slice a n cp, .func (.func 33) #[.pointer (some ⟨fb, 0, none⟩)] #[]] w fun en w' => en = .returned (num (S n)) ∧ Rep B0 w0 (Lf (E n)) w' := by
 replace hA := Held.mk hA
 replace hc := Held.mk hc
 obtain ⟨s0, hs0⟩ : ∃ x, S 0 = x := ⟨_, rfl⟩
 rw [hs0]
 replace hs0 := Held.mk hs0
 go_enter Tryz.func36, Tryz.ntmps36
 go_wp2_with (first | (refine' aAq hR ?_; clear hR; intro blk w hR) | (refine' aBq hR ?_; clear hR; intro blk w hR))
 (first | (rename_i b3; change Nat at b3) | (rename_i b3 _; change Nat at b3) | (rename_i b3 _ _; change Nat at b3) | (rename_i b3 _ _ _; change Nat at b3) | (rename_i b3 _ _ _ _; change Nat at b3) | (rename_i b3 _ _ _ _ _; change Nat at b3) | (rename_i b3 _ _ _ _ _ _; change Nat at b3) | (rename_i b3 _ _ _ _ _ _ _; change Nat at b3) | (rename_i b3 _ _ _ _ _ _ _ _; change Nat at b3) | (rename_i b3 _ _ _ _ _ _ _ _ _; change Nat at b3) | (rename_i b3 _ _ _ _ _ _ _ _ _ _; change Nat at b3) | (rename_i b3 _ _ _ _ _ _ _ _ _ _ _; change Nat at b3) | (rename_i b3 _ _ _ _ _ _ _ _ _ _ _ _; change Nat at b3) | (rename_i b3 _ _ _ _ _ _ _ _ _ _ _ _ _; change Nat at b3) | (rename_i b3 _ _ _ _ _ _ _ _ _ _ _ _ _ _; change Nat at b3) | (rename_i b3 _ _ _ _ _ _ _ _ _ _ _ _ _ _ _; change Nat at b3) | (rename_i b3 _ _ _ _ _ _ _ _ _ _ _ _ _ _ _ _; change Nat at b3) | (rename_i b3 _ _ _ _ _ _ _ _ _ _ _ _ _ _ _ _ _; change Nat at b3) | (rename_i b3 _ _ _ _ _ _ _ _ _ _ _ _ _ _ _ _ _ _; change Nat at b3) | (rename_i b3 _ _ _ _ _ _ _ _ _ _ _ _ _ _ _ _ _ _ _; change Nat at b3) | (rename_i b3 _ _ _ _ _ _ _ _ _ _ _ _ _ _ _ _ _ _ _ _; change Nat at b3) | (rename_i b3 _ _ _ _ _ _ _ _ _ _ _ _ _ _ _ _ _ _ _ _ _; change Nat at b3) | (rename_i b3 _ _ _ _ _ _ _ _ _ _ _ _ _ _ _ _ _ _ _ _ _ _; change Nat at b3) | (rename_i b3 _ _ _ _ _ _ _ _ _ _ _ _ _ _ _ _ _ _ _ _ _ _ _; change Nat at b3) | (rename_i b3 _ _ _ _ _ _ _ _ _ _ _ _ _ _ _ _ _ _ _ _ _ _ _ _; change Nat at b3) | (rename_i b3 _ _ _ _ _ _ _ _ _ _ _ _ _ _ _ _ _ _ _ _ _ _ _ _ _; change Nat at b3) | (rename_i b3 _ _ _ _ _ _ _ _ _ _ _ _ _ _ _ _ _ _ _ _ _ _ _ _ _ _; change Nat at b3) | (rename_i b3 _ _ _ _ _ _ _ _ _ _ _ _ _ _ _ _ _ _ _ _ _ _ _ _ _ _ _; change Nat at b3) | (rename_i b3 _ _ _ _ _ _ _ _ _ _ _ _ _ _ _ _ _ _ _ _ _ _ _ _ _ _ _ _; change Nat at b3) | (rename_i b3 _ _ _ _ _ _ _ _ _ _ _ _ _ _ _ _ _ _ _ _ _ _ _ _ _ _ _ _ _; change Nat at b3))
 rw [← hs0.out] at hR
 try simp only [Act.put, kA, kB, List.setIfInBounds_toArray]
 refine' xAv (false :: false :: false :: false :: false :: false :: false :: false :: true :: false :: false :: false :: true :: true :: true :: true :: true :: true :: true :: true :: false :: []) (fun (i : Nat) l => l.set 11 (.int .i64 (i : Int))) (fun i => (blk, Obj.cells (List.toArray [Value.int .u64 0, .int .u64 0, .int .u64 0, .int .u64 0]) 24) :: (b3, Obj.cells (nl (S i)).toArray 24) :: Lf (E i)) (fun i => n - i) (fun i => i ≤ n) 0 ?h0 ?hO ?hR ?hs
 case h0 => exact xAf rfl rfl rfl
 case hO => exact Nat.zero_le _
 case hR => exact hR
 case hs =>
  clear hR
  intro i tm w hi ht hR K hK
  have g0 : 0 ≤ (i : Int) := by omega
  by_cases hik : i = n
  ·subst hik
   have t1 : ¬ (i : Int) < (i : Int) := by omega
   obtain ⟨s, hs⟩ : ∃ x, S i = x := ⟨_, rfl⟩
   replace hR := (show Rep _ _ (_ :: (b3, Obj.cells (nl (S i)).toArray 24) :: Lf (E i)) _ from hR)
   rw [hs] at hR
   replace hs := Held.mk hs
   clear hK hi hc hA
   repeat (first | (obtain ⟨x, tm', e, ht'⟩ := xAc ht; clear ht; subst e; have ht := ht'; clear ht') | (obtain ⟨tm', e, ht'⟩ := xAa ht; clear ht; subst e; have ht := ht'; clear ht'))
   obtain rfl := xAe ht
   clear ht
   go_wp2_with (first | (refine' aNq hR ?_) | (refine' aRq hR ?_; clear hR; intro w hR))
   (refine' bodyPost_ret (xAq Tryz.results36 rfl (hR.loadAll (P := Tryz.prog) (ty := 24) ?hm ?hn)) rfl ⟨?_, hR.drop1.drop1⟩; (case hm => exact .head _); (case hn => rfl))
   rw [hs.out]
  ·have hin : i < n := by omega
   have g1 : (i : Int) < (n : Int) := by omega
   obtain ⟨bb, off, rfl, hx⟩ := (hA.out (E i)).at' (by omega)
   have ci := hc.out i hin
   obtain ⟨x, hxe⟩ : ∃ x, f i = x := ⟨_, rfl⟩
   have ld := xBc (hx w hR.drop1.drop1 i hin)
   obtain ⟨s, hs⟩ : ∃ x, S i = x := ⟨_, rfl⟩
   obtain ⟨s', hs'⟩ : ∃ x, S (i + 1) = x := ⟨_, rfl⟩
   replace hR := (show Rep _ _ (_ :: (b3, Obj.cells (nl (S i)).toArray 24) :: Lf (E i)) _ from hR)
   rw [hs] at hR
   rw [hs, hs', hxe] at ci
   rw [hxe] at ld
   have ei : IntKind.i64.wrap ((i : Int) + 1) = ((i + 1 : Nat) : Int) := by rw [IntKind.wrap_i64]; omega
   have hi1 : i + 1 ≤ n := by omega
   have hmu : n - (i + 1) < n - i := by omega
   replace hi1 := Held.mk hi1
   replace hmu := Held.mk hmu
   replace hs' := Held.mk hs'
   clear hi hA hc hik hin hx hxe hs
   repeat (first | (obtain ⟨x, tm', e, ht'⟩ := xAc ht; clear ht; subst e; have ht := ht'; clear ht') | (obtain ⟨tm', e, ht'⟩ := xAa ht; clear ht; subst e; have ht := ht'; clear ht'))
   obtain rfl := xAe ht
   clear ht
   go_wp2_with (first | (refine' aBq hR ?_; clear hR; intro blk w hR) | (refine' aNq hR ?_) | (refine' aRq hR ?_; clear hR; intro w hR) | (refine' xBr rfl rfl rfl ld ?_) | (go_at_call 33; refine (ci [_, _, _] _ hR).mono ?_; clear hR; rintro e w ⟨rfl, hR⟩; simp only [List.cons_append, List.nil_append] at hR))
   refine hK.out (i + 1) _ _ hi1.out hmu.out (xAf rfl rfl rfl) ?_
   rw [hs'.out]
   exact hR.drop1
theorem gtimes_any (S : Nat → Nat) (E : Nat → Int) (Lf : Int → List (Nat × Obj)) (hA : ∀ e, NAt B0 w0 (Lf e) a n cp f) (hn : n ≤ 1000000)
  (hc : ∀ j, j < n → ∀ (M : List (Nat × Obj)) (w : World), Rep B0 w0 (M ++ Lf (E j)) w → Calls Tryz.prog 34 #[.pointer (some ⟨fb, 0, none⟩), num (S j), num (f j)] w fun en w' => en = .returned (num (S (j + 1))) ∧ Rep B0 w0 (M ++ Lf (E (j + 1))) w')
  (hR : Rep B0 w0 (Lf (E 0)) w) : Calls Tryz.prog 36 #[num (S 0), .slice a n cp, .func (.func 34) #[.pointer (some ⟨fb, 0, none⟩)] #[]] w fun en w' => en = .returned (num (S n)) ∧ Rep B0 w0 (Lf (E n)) w' := by
 replace hA := Held.mk hA
 replace hc := Held.mk hc
 obtain ⟨s0, hs0⟩ : ∃ x, S 0 = x := ⟨_, rfl⟩
 rw [hs0]
 replace hs0 := Held.mk hs0
 go_enter Tryz.func36, Tryz.ntmps36
 go_wp2_with (first | (refine' aAq hR ?_; clear hR; intro blk w hR) | (refine' aBq hR ?_; clear hR; intro blk w hR))
 (first | (rename_i b3; change Nat at b3) | (rename_i b3 _; change Nat at b3) | (rename_i b3 _ _; change Nat at b3) | (rename_i b3 _ _ _; change Nat at b3) | (rename_i b3 _ _ _ _; change Nat at b3) | (rename_i b3 _ _ _ _ _; change Nat at b3) | (rename_i b3 _ _ _ _ _ _; change Nat at b3) | (rename_i b3 _ _ _ _ _ _ _; change Nat at b3) | (rename_i b3 _ _ _ _ _ _ _ _; change Nat at b3) | (rename_i b3 _ _ _ _ _ _ _ _ _; change Nat at b3) | (rename_i b3 _ _ _ _ _ _ _ _ _ _; change Nat at b3) | (rename_i b3 _ _ _ _ _ _ _ _ _ _ _; change Nat at b3) | (rename_i b3 _ _ _ _ _ _ _ _ _ _ _ _; change Nat at b3) | (rename_i b3 _ _ _ _ _ _ _ _ _ _ _ _ _; change Nat at b3) | (rename_i b3 _ _ _ _ _ _ _ _ _ _ _ _ _ _; change Nat at b3) | (rename_i b3 _ _ _ _ _ _ _ _ _ _ _ _ _ _ _; change Nat at b3) | (rename_i b3 _ _ _ _ _ _ _ _ _ _ _ _ _ _ _ _; change Nat at b3) | (rename_i b3 _ _ _ _ _ _ _ _ _ _ _ _ _ _ _ _ _; change Nat at b3) | (rename_i b3 _ _ _ _ _ _ _ _ _ _ _ _ _ _ _ _ _ _; change Nat at b3) | (rename_i b3 _ _ _ _ _ _ _ _ _ _ _ _ _ _ _ _ _ _ _; change Nat at b3) | (rename_i b3 _ _ _ _ _ _ _ _ _ _ _ _ _ _ _ _ _ _ _ _; change Nat at b3) | (rename_i b3 _ _ _ _ _ _ _ _ _ _ _ _ _ _ _ _ _ _ _ _ _; change Nat at b3) | (rename_i b3 _ _ _ _ _ _ _ _ _ _ _ _ _ _ _ _ _ _ _ _ _ _; change Nat at b3) | (rename_i b3 _ _ _ _ _ _ _ _ _ _ _ _ _ _ _ _ _ _ _ _ _ _ _; change Nat at b3) | (rename_i b3 _ _ _ _ _ _ _ _ _ _ _ _ _ _ _ _ _ _ _ _ _ _ _ _; change Nat at b3) | (rename_i b3 _ _ _ _ _ _ _ _ _ _ _ _ _ _ _ _ _ _ _ _ _ _ _ _ _; change Nat at b3) | (rename_i b3 _ _ _ _ _ _ _ _ _ _ _ _ _ _ _ _ _ _ _ _ _ _ _ _ _ _; change Nat at b3) | (rename_i b3 _ _ _ _ _ _ _ _ _ _ _ _ _ _ _ _ _ _ _ _ _ _ _ _ _ _ _; change Nat at b3) | (rename_i b3 _ _ _ _ _ _ _ _ _ _ _ _ _ _ _ _ _ _ _ _ _ _ _ _ _ _ _ _; change Nat at b3) | (rename_i b3 _ _ _ _ _ _ _ _ _ _ _ _ _ _ _ _ _ _ _ _ _ _ _ _ _ _ _ _ _; change Nat at b3))
 rw [← hs0.out] at hR
 try simp only [Act.put, kA, kB, List.setIfInBounds_toArray]
 refine' xAv (false :: false :: false :: false :: false :: false :: false :: false :: true :: false :: false :: false :: true :: true :: true :: true :: true :: true :: true :: true :: false :: []) (fun (i : Nat) l => l.set 11 (.int .i64 (i : Int))) (fun i => (blk, Obj.cells (List.toArray [Value.int .u64 0, .int .u64 0, .int .u64 0, .int .u64 0]) 24) :: (b3, Obj.cells (nl (S i)).toArray 24) :: Lf (E i)) (fun i => n - i) (fun i => i ≤ n) 0 ?h0 ?hO ?hR ?hs
 case h0 => exact xAf rfl rfl rfl
 case hO => exact Nat.zero_le _
 case hR => exact hR
 case hs =>
  clear hR
  intro i tm w hi ht hR K hK
  have g0 : 0 ≤ (i : Int) := by omega
  by_cases hik : i = n
  ·subst hik
   have t1 : ¬ (i : Int) < (i : Int) := by omega
   obtain ⟨s, hs⟩ : ∃ x, S i = x := ⟨_, rfl⟩
   replace hR := (show Rep _ _ (_ :: (b3, Obj.cells (nl (S i)).toArray 24) :: Lf (E i)) _ from hR)
   rw [hs] at hR
   replace hs := Held.mk hs
   clear hK hi hc hA
   repeat (first | (obtain ⟨x, tm', e, ht'⟩ := xAc ht; clear ht; subst e; have ht := ht'; clear ht') | (obtain ⟨tm', e, ht'⟩ := xAa ht; clear ht; subst e; have ht := ht'; clear ht'))
   obtain rfl := xAe ht
   clear ht
   go_wp2_with (first | (refine' aNq hR ?_) | (refine' aRq hR ?_; clear hR; intro w hR))
   (refine' bodyPost_ret (xAq Tryz.results36 rfl (hR.loadAll (P := Tryz.prog) (ty := 24) ?hm ?hn)) rfl ⟨?_, hR.drop1.drop1⟩; (case hm => exact .head _); (case hn => rfl))
   rw [hs.out]
  ·have hin : i < n := by omega
   have g1 : (i : Int) < (n : Int) := by omega
   obtain ⟨bb, off, rfl, hx⟩ := (hA.out (E i)).at' (by omega)
   have ci := hc.out i hin
   obtain ⟨x, hxe⟩ : ∃ x, f i = x := ⟨_, rfl⟩
   have ld := xBc (hx w hR.drop1.drop1 i hin)
   obtain ⟨s, hs⟩ : ∃ x, S i = x := ⟨_, rfl⟩
   obtain ⟨s', hs'⟩ : ∃ x, S (i + 1) = x := ⟨_, rfl⟩
   replace hR := (show Rep _ _ (_ :: (b3, Obj.cells (nl (S i)).toArray 24) :: Lf (E i)) _ from hR)
   rw [hs] at hR
   rw [hs, hs', hxe] at ci
   rw [hxe] at ld
   have ei : IntKind.i64.wrap ((i : Int) + 1) = ((i + 1 : Nat) : Int) := by rw [IntKind.wrap_i64]; omega
   have hi1 : i + 1 ≤ n := by omega
   have hmu : n - (i + 1) < n - i := by omega
   replace hi1 := Held.mk hi1
   replace hmu := Held.mk hmu
   replace hs' := Held.mk hs'
   clear hi hA hc hik hin hx hxe hs
   repeat (first | (obtain ⟨x, tm', e, ht'⟩ := xAc ht; clear ht; subst e; have ht := ht'; clear ht') | (obtain ⟨tm', e, ht'⟩ := xAa ht; clear ht; subst e; have ht := ht'; clear ht'))
   obtain rfl := xAe ht
   clear ht
   go_wp2_with (first | (refine' aBq hR ?_; clear hR; intro blk w hR) | (refine' aNq hR ?_) | (refine' aRq hR ?_; clear hR; intro w hR) | (refine' xBr rfl rfl rfl ld ?_) | (go_at_call 34; refine (ci [_, _, _] _ hR).mono ?_; clear hR; rintro e w ⟨rfl, hR⟩; simp only [List.cons_append, List.nil_append] at hR))
   refine hK.out (i + 1) _ _ hi1.out hmu.out (xAf rfl rfl rfl) ?_
   rw [hs'.out]
   exact hR.drop1
noncomputable def sumS (q : Nat) (f : Nat → Nat) : Nat → Nat
 | 0 => 0
 | j + 1 => if okM (sumS q f j) (f j) q then (sumS q f j + f j) % q else 0
noncomputable def sumE (q : Nat) (f : Nat → Nat) : Nat → Int
 | 0 => 0
 | j + 1 => xJp (sumE q f j) (if okM (sumS q f j) (f j) q then 0 else 1)
theorem sumS_lt {q : Nat} (h1 : 1 < q) (f : Nat → Nat) : ∀ j, sumS q f j < q
  | 0 => Nat.lt_of_succ_lt h1
  | j + 1 => by
    unfold sumS
    split
    · exact Nat.mod_lt _ (by omega)
    · omega
theorem sumS_B {q : Nat} (hq : q < B) (f : Nat → Nat) : ∀ j, sumS q f j < B
  | 0 => xEy
  | j + 1 => by
    unfold sumS
    split
    · rename_i hh
      exact Nat.lt_trans (Nat.mod_lt _ (by have := hh.1; omega)) hq
    · exact xEy
theorem sumE_zero {q : Nat} (h1 : 1 < q) (f : Nat → Nat) : ∀ j, sumE q f j = 0 ↔ ∀ i, i < j → f i < q
  | 0 => ⟨fun _ i hi => absurd hi (Nat.not_lt_zero i), fun _ => rfl⟩
  | j + 1 => by
    have ih := sumE_zero h1 f j
    have hl := sumS_lt h1 f j
    unfold sumE xJp
    constructor
    · intro hh i hi
      by_cases h0 : sumE q f j = 0
      · rw [if_pos h0] at hh
        by_cases hij : i = j
        · subst hij
          by_cases ho : okM (sumS q f i) (f i) q
          · exact ho.2.2
          · rw [if_neg ho] at hh; omega
        · exact ih.1 h0 i (by omega)
      · rw [if_neg h0] at hh
        exact absurd hh h0
    · intro hall
      have h0 := ih.2 fun i hi => hall i (by omega)
      rw [if_pos h0, if_pos ⟨h1, hl, hall j (by omega)⟩]
theorem xFx (hq : q < B) (hA : NAt B0 w0 L a n cp f) (hn : n ≤ 1000000) (s : Bool) (hs : s = true ↔ 1 < q ∧ ∀ j, j < n → f j < q) (hR : Rep B0 w0 L w) :
  Calls Tryz.prog 31 #[grp p q g h, .slice a n cp] w fun en w' => en = .returned (.bool s) ∧ Rep B0 w0 L w' := by
 have bf := fun w => xKe p q g h w
 have fB := hA.lt
 have cg : ∀ (fb b2 : Nat) (w : World), Rep B0 w0 ((fb, .cells (pfl p q g h 0).toArray 79) :: (b2, .cells (gl p q g h).toArray 26) :: L) w →
   Calls Tryz.prog 36 #[num 0, .slice a n cp, .func (.func 33) #[.pointer (some ⟨fb, 0, none⟩)] #[]] w fun en w' => en = .returned (num (sumS q f n)) ∧ Rep B0 w0 ((fb, .cells (pfl p q g h (sumE q f n)).toArray 79) :: (b2, .cells (gl p q g h).toArray 26) :: L) w' := fun fb b2 w hw =>
  gplus_any (S := sumS q f) (E := sumE q f) (Lf := fun e => (fb, .cells (pfl p q g h e).toArray 79) :: (b2, .cells (gl p q g h).toArray 26) :: L) (fun e => hA.mono fun w hw => hw.drop1.drop1) hn
   (fun j hj M w hw => fplus_any (sumS_B hq f j) (fB j hj) hq (by rw [sumS]) rfl (by rw [sumE]) (xBq.head.app M) hw) hw
 have cp2 : ∀ (e : Int) (fb b2 : Nat) (w : World), Rep B0 w0 ((fb, .cells (pfl p q g h e).toArray 79) :: (b2, .cells (gl p q g h).toArray 26) :: L) w →
   Calls Tryz.prog 33 #[.pointer (some ⟨fb, 0, none⟩), num 0, num 0] w fun en w' => en = .returned (num (if okM 0 0 q then (0 + 0) % q else 0)) ∧ Rep B0 w0 ((fb, .cells (pfl p q g h (xJp e (if okM 0 0 q then 0 else 1))).toArray 79) :: (b2, .cells (gl p q g h).toArray 26) :: L) w' := fun e fb b2 w hw =>
  fplus_any xEy xEy hq rfl rfl rfl xBq.head hw
 rw [z_num] at cg cp2
 have hfin : ((xJp (sumE q f n) (if okM 0 0 q then 0 else 1)) == 0) = s := by
  refine Bool.eq_iff_iff.2 (Iff.trans ?_ hs.symm)
  rw [beq_iff_eq]
  by_cases h1 : 1 < q
  ·have ho : okM 0 0 q := ⟨h1, by omega, by omega⟩
   rw [if_pos ho]
   unfold xJp
   have := sumE_zero h1 f n
   by_cases h0 : sumE q f n = 0
   ·rw [if_pos h0]
    exact ⟨fun _ => ⟨h1, this.1 h0⟩, fun _ => rfl⟩
   ·rw [if_neg h0]
    exact ⟨fun hh => absurd hh h0, fun hh => absurd (this.2 hh.2) h0⟩
  ·have ho : ¬ okM 0 0 q := fun hh => h1 hh.1
   rw [if_neg ho]
   unfold xJp
   constructor
   ·intro hh
    split at hh
    ·omega
    ·contradiction
   ·intro hh
    exact absurd hh.1 h1
 have cp3 := cp2 (sumE q f n)
 clear cp2
 generalize xJp (sumE q f n) (if okM 0 0 q then 0 else 1) = e2 at *
 generalize sumE q f n = e1 at *
 generalize (if okM 0 0 q then (0 + 0) % q else 0) = r2 at *
 clear hs hA fB
 go_enter Tryz.func31, Tryz.ntmps31
 go_wp2_with (first | (refine' aAq hR ?_; clear hR; intro blk w hR) | (refine' aNq hR ?_) | (refine' aMq hR ?_) | (refine' xCk rfl rfl rfl bf ?_) | (go_at_call 36; refine (cg _ _ _ hR).mono ?_; clear hR; rintro e w ⟨rfl, hR⟩) | (go_at_call 33; refine (cp3 _ _ _ hR).mono ?_; clear hR; rintro e w ⟨rfl, hR⟩))
 go_ret
 exact ⟨rfl, hR.drop1.drop1⟩
theorem cutL_run {bb off i : Nat} (hA : NAt B0 w0 L (some ⟨bb, off, none⟩) n cp f) (hi : i ≤ n) (h0 : n ≠ 0) : (∀ w, (Instr.sliceAt 27 (.slice (some ⟨bb, off, none⟩) n cp) none (some (.int .i64 (i : Int))) none).run Tryz.prog w = .ok (.slice (some ⟨bb, off, none⟩) i cp) w) ∧ NAt B0 w0 L (some ⟨bb, off, none⟩) i cp f := by
 have h1 := hA.lec
 have h2 := hA.big
 unfold maxLen at h2
 have g0 : 0 ≤ (i : Int) := by omega
 have g1 : (i : Int) ≤ (cp : Int) := by omega
 have g2 : ¬ cp = 0 := by omega
 refine ⟨fun w => ?_, by omega, hA.big, fun j hj => hA.lt j (by omega), fun _ => ?_⟩
 ·go_simp
 ·obtain ⟨b, o, e, hx⟩ := hA.at' h0
  exact ⟨b, o, e, fun w hw j hj => hx w hw j (by omega)⟩
theorem pindex_any {v : Nat} (hv : v < B) (hA : NAt B0 w0 L a n cp f) (hn : n ≤ 1000000) (hR : Rep B0 w0 L w) :
  Calls Tryz.prog 192 #[.slice a n cp, num v] w fun en w' => (∃ k : Int, en = .returned (.int .i64 k) ∧ (0 ≤ k ↔ ∃ j, j < n ∧ f j = v)) ∧ Rep B0 w0 L w' := by
 replace hA := Held.mk hA
 go_enter Tryz.func192, Tryz.ntmps192
 go_wp2_with (refine' aAq hR ?_; clear hR; intro blk w hR)
 try simp only [Act.put, kA, kB, List.setIfInBounds_toArray]
 refine' xBo hR (false :: false :: false :: false :: false :: true :: false :: false :: false :: true :: true :: true :: true :: true :: true :: true :: true :: true :: true :: []) (fun (i : Nat) l => l.set 8 (.int .i64 (i : Int))) (fun i => n - i) (fun i => i ≤ n ∧ ∀ j, j < i → f j ≠ v) 0 ?h0 ?hO ?hs
 case h0 => exact xAf rfl rfl rfl
 case hO => exact ⟨Nat.zero_le _, fun j hj => absurd hj (Nat.not_lt_zero j)⟩
 case hs =>
  clear hR
  intro i tm w hi ht hR K hK
  obtain ⟨hi, hno⟩ := hi
  replace hno := Held.mk hno
  have g0 : 0 ≤ (i : Int) := by omega
  by_cases hik : i = n
  ·subst hik
   have t1 : ¬ (i : Int) < (i : Int) := by omega
   clear hK hi hA
   repeat (first | (obtain ⟨x, tm', e, ht'⟩ := xAc ht; clear ht; subst e; have ht := ht'; clear ht') | (obtain ⟨tm', e, ht'⟩ := xAa ht; clear ht; subst e; have ht := ht'; clear ht'))
   obtain rfl := xAe ht
   clear ht
   go_wp2_with (fail)
   go_ret
   exact ⟨⟨_, rfl, fun hh => absurd hh (by decide), fun ⟨j, hj, hf⟩ => absurd hf (hno.out j hj)⟩, hR.drop1⟩
  ·have hin : i < n := by omega
   have g1 : (i : Int) < (n : Int) := by omega
   obtain ⟨bb, off, rfl, hx⟩ := hA.out.at' (by omega)
   have ld := fun (w : World) (hw : Rep B0 w0 L w) => xBc (hx w hw i hin)
   have lf := hA.out.lt i hin
   obtain ⟨x, hxe⟩ : ∃ x, f i = x := ⟨_, rfl⟩
   rw [hxe] at ld lf
   by_cases hvx : v = x
   ·have es := xFw hvx
    have hyes : ∃ j, j < n ∧ f j = v := ⟨i, hin, by rw [hxe, hvx]⟩
    replace hyes := Held.mk hyes
    clear hK hi hA hik hin hx hxe hno lf hvx
    repeat (first | (obtain ⟨x, tm', e, ht'⟩ := xAc ht; clear ht; subst e; have ht := ht'; clear ht') | (obtain ⟨tm', e, ht'⟩ := xAa ht; clear ht; subst e; have ht := ht'; clear ht'))
    obtain rfl := xAe ht
    clear ht
    go_wp2_with (fail)
    refine xAd hR [0, 0, 0, 0, 0, 0] [] xBd (by kernel_rfl) rfl rfl (fun K hK => ?_)
    clear hR
    repeat ((first | (refine' xAj (by decide) rfl (.inl rfl) rfl ?ha ?_) | (refine' aOq ?ha ?_) | ((first | refine' xAg (by decide) rfl rfl rfl rfl (fun w => ?hq) ?ha ?_ | refine' xAm (by decide) rfl rfl rfl rfl (fun w => ?hq) ?ha ?_); (case hq => go_simp; try rfl)) | (refine' xAn rfl rfl rfl (fun w hw => ld w hw.drop1) ?ha ?_; (case ha => simp only [kP, kQ, kA, kB]; try rfl))); try (case ha => simp only [kP, kQ, kA, kB]; try rfl))
    refine xAo (hK _ _ ?_)
    clear hK K
    refine xAr (fun Q hQ => ?_)
    try simp only [List.nil_append, List.cons_append]
    repeat ((fail); (case hk => intro p hp; first | exact absurd hp List.not_mem_nil | (obtain rfl := List.mem_singleton.1 hp; repeat (first | exact List.Mem.head _ | with_reducible assumption | apply mC))); (case ha => simp only [kP, kQ, kA, kB]; try rfl))
    refine xAs (fun w hR => hQ _ _ ?_)
    clear hQ Q
    go_wp2_with (fail)
    go_ret
    exact ⟨⟨_, rfl, fun _ => hyes.out, fun _ => g0⟩, hR.drop1⟩
   ·have es := xDq hv lf hvx
    have hnext : ∀ j, j < i + 1 → f j ≠ v := fun j hj => by
     by_cases hji : j = i
     ·rw [hji, hxe]; exact fun e => hvx e.symm
     ·exact hno.out j (by omega)
    have ei : IntKind.i64.wrap ((i : Int) + 1) = ((i + 1 : Nat) : Int) := by rw [IntKind.wrap_i64]; omega
    have hi1 : i + 1 ≤ n := by omega
    have hmu : n - (i + 1) < n - i := by omega
    replace hi1 := Held.mk hi1
    replace hmu := Held.mk hmu
    replace hnext := Held.mk hnext
    clear hi hA hik hin hx hxe hno lf hvx
    repeat (first | (obtain ⟨x, tm', e, ht'⟩ := xAc ht; clear ht; subst e; have ht := ht'; clear ht') | (obtain ⟨tm', e, ht'⟩ := xAa ht; clear ht; subst e; have ht := ht'; clear ht'))
    obtain rfl := xAe ht
    clear ht
    go_wp2_with (fail)
    refine xAd hR [0, 0, 0, 0, 0, 0] [] xBd (by kernel_rfl) rfl rfl (fun K hK => ?_)
    clear hR
    repeat ((first | (refine' xAj (by decide) rfl (.inl rfl) rfl ?ha ?_) | (refine' aOq ?ha ?_) | ((first | refine' xAg (by decide) rfl rfl rfl rfl (fun w => ?hq) ?ha ?_ | refine' xAm (by decide) rfl rfl rfl rfl (fun w => ?hq) ?ha ?_); (case hq => go_simp; try rfl)) | (refine' xAn rfl rfl rfl (fun w hw => ld w hw.drop1) ?ha ?_; (case ha => simp only [kP, kQ, kA, kB]; try rfl))); try (case ha => simp only [kP, kQ, kA, kB]; try rfl))
    refine xAo (hK _ _ ?_)
    clear hK K
    refine xAr (fun Q hQ => ?_)
    try simp only [List.nil_append, List.cons_append]
    repeat ((fail); (case hk => intro p hp; first | exact absurd hp List.not_mem_nil | (obtain rfl := List.mem_singleton.1 hp; repeat (first | exact List.Mem.head _ | with_reducible assumption | apply mC))); (case ha => simp only [kP, kQ, kA, kB]; try rfl))
    refine xAs (fun w hR => hQ _ _ ?_)
    clear hQ Q
    go_wp2_with (fail)
    exact hK.out (i + 1) _ _ ⟨hi1.out, hnext.out⟩ hmu.out (xAf rfl rfl rfl) hR
theorem pcontains_any {v : Nat} (hv : v < B) (hA : NAt B0 w0 L a n cp f) (hn : n ≤ 1000000) (s : Bool) (hs : s = true ↔ ∃ j, j < n ∧ f j = v) (hR : Rep B0 w0 L w) :
  Calls Tryz.prog 126 #[.slice a n cp, num v] w fun en w' => en = .returned (.bool s) ∧ Rep B0 w0 L w' := by
 have ci := fun (L' : List (Nat × Obj)) (h : ∀ w, Rep B0 w0 L' w → Rep B0 w0 L w) (w : World) (hw : Rep B0 w0 L' w) => pindex_any hv (hA.mono h) hn hw
 clear hA
 go_enter Tryz.func126, Tryz.ntmps126
 go_wp2_with (first | (refine' aAq hR ?_; clear hR; intro blk w hR) | (refine' aNq hR ?_) | (go_at_call 192; refine (ci _ (fun w hw => hw.drop1) _ hR).mono ?_; clear hR; rintro e w ⟨⟨k, rfl, hk⟩, hR⟩; have hks : decide (0 ≤ k) = s := Bool.eq_iff_iff.2 (decide_eq_true_iff.trans (hk.trans hs.symm)); clear hk))
 go_ret
 exact ⟨rfl, hR.drop1⟩
end
end
section
attribute [local irreducible] Calls Instr.build Instr.buildSlice
end
section
attribute [local irreducible] Calls Instr.build Instr.buildSlice
theorem xBq.ofMem {b : Nat} {o : Obj} : ∀ {L : List (Nat × Obj)}, (b, o) ∈ L → xBq L b o o L
  | [], h => nomatch h
  | p :: L, h => by
    rcases List.mem_cons.1 h with rfl | h
    · exact .inl ⟨rfl, rfl⟩
    · exact .inr ⟨L, xBq.ofMem h, rfl⟩
theorem xHz (e : Int) : xJp e 0 = e := by
 unfold xJp
 split
 ·rename_i h; exact h.symm
 ·rfl
section
variable {p q g h : Nat} {fb : Nat} {e : Int} {B0 : Nat} {w0 w : World} {L L' : List (Nat × Obj)} {a : Option Addr} {n cp : Nat} {f : Nat → Nat}
theorem fplus_ok {x y r : Nat} (h1 : 1 < q) (hq : q < B) (hx : x < q) (hy : y < q) (hr : (x + y) % q = r) (hm : (fb, Obj.cells (pfl p q g h e).toArray 79) ∈ L) (hR : Rep B0 w0 L w) : Calls Tryz.prog 33 #[.pointer (some ⟨fb, 0, none⟩), num x, num y] w fun en w' => en = .returned (num r) ∧ Rep B0 w0 L w' :=
 fplus_any (Nat.lt_trans hx hq) (Nat.lt_trans hy hq) hq (by rw [if_pos ⟨h1, hx, hy⟩]; exact hr) (if_pos ⟨h1, hx, hy⟩) (xHz e) (xBq.ofMem hm) hR
theorem fless_ok {x y r : Nat} (h1 : 1 < q) (hq : q < B) (hx : x < q) (hy : y < q) (hr : subN x y q = r) (hm : (fb, Obj.cells (pfl p q g h e).toArray 79) ∈ L) (hR : Rep B0 w0 L w) : Calls Tryz.prog 128 #[.pointer (some ⟨fb, 0, none⟩), num x, num y] w fun en w' => en = .returned (num r) ∧ Rep B0 w0 L w' :=
 fless_any (Nat.lt_trans hx hq) (Nat.lt_trans hy hq) hq (by rw [if_pos ⟨h1, hx, hy⟩]; exact hr) (if_pos ⟨h1, hx, hy⟩) (xHz e) (xBq.ofMem hm) hR
theorem ftimes_ok {x y r : Nat} (h1 : 1 < q) (hq : q < B) (hx : x < q) (hy : y < q) (hr : mulN x y q = r) (hm : (fb, Obj.cells (pfl p q g h e).toArray 79) ∈ L) (hR : Rep B0 w0 L w) : Calls Tryz.prog 34 #[.pointer (some ⟨fb, 0, none⟩), num x, num y] w fun en w' => en = .returned (num r) ∧ Rep B0 w0 L w' :=
 ftimes_any (Nat.lt_trans hx hq) (Nat.lt_trans hy hq) hq (by rw [if_pos ⟨h1, hx, hy⟩]; exact hr) (if_pos ⟨h1, hx, hy⟩) (xHz e) (xBq.ofMem hm) hR
def ptsOK (q n : Nat) (f : Nat → Nat) : Prop := 0 < n ∧ (∀ i, i < n → ∀ j, j < i → f j ≠ f i) ∧ 1 < q ∧ ∀ j, j < n → f j < q
theorem points_any (hq : q < B) (hA : NAt B0 w0 L a n cp f) (hn : n ≤ 1000000) (s : Bool) (hs : s = true ↔ ptsOK q n f) (hR : Rep B0 w0 L w) :
  Calls Tryz.prog 35 #[grp p q g h, .slice a n cp] w fun en w' => en = .returned (.bool s) ∧ Rep B0 w0 L w' := by
 classical
 have hs0 := hs
 replace hA := Held.mk hA
 replace hs := Held.mk hs
 clear hs0
 go_enter Tryz.func35, Tryz.ntmps35
 go_wp2_with (refine' aAq hR ?_; clear hR; intro blk w hR)
 try simp only [Act.put, kA, kB, List.setIfInBounds_toArray]
 refine' xBo hR (false :: false :: false :: false :: false :: true :: true :: false :: false :: false :: true :: true :: true :: true :: true :: true :: true :: true :: true :: true :: false :: false :: false :: false :: false :: false :: false :: false :: []) (fun (i : Nat) l => l.set 9 (.int .i64 (i : Int))) (fun i => n - i) (fun i => i ≤ n ∧ ∀ k, k < i → ∀ j, j < k → f j ≠ f k) 0 ?h0 ?hO ?hs
 case h0 => exact xAf rfl rfl rfl
 case hO => exact ⟨Nat.zero_le _, fun j hj => absurd hj (Nat.not_lt_zero j)⟩
 case hs =>
  clear hR
  intro i tm w hi ht hR K hK
  obtain ⟨hi, hno⟩ := hi
  replace hno := Held.mk hno
  have g0 : 0 ≤ (i : Int) := by omega
  by_cases hik : i = n
  ·subst hik
   have t1 : ¬ (i : Int) < (i : Int) := by omega
   by_cases h0 : i = 0
   ·have h0' : ¬ (0 : Int) < (i : Int) := by omega
    have h0'' : decide ((0 : Int) < (i : Int)) = false := decide_eq_false h0'
    obtain rfl : s = false := by
     cases s
     ·rfl
     ·have := (hs.out.1 rfl).1; omega
    clear hK hi hA hno hs h0
    repeat (first | (obtain ⟨x, tm', e, ht'⟩ := xAc ht; clear ht; subst e; have ht := ht'; clear ht') | (obtain ⟨tm', e, ht'⟩ := xAa ht; clear ht; subst e; have ht := ht'; clear ht'))
    obtain rfl := xAe ht
    clear ht
    go_wp2_with (fail)
    go_ret
    exact ⟨rfl, hR.drop1⟩
   ·have h0' : (0 : Int) < (i : Int) := by omega
    have h0'' : decide ((0 : Int) < (i : Int)) = true := decide_eq_true h0'
    have h0n : 0 < i := by omega
    have h0d : decide (0 < i) = true := decide_eq_true h0n
    have cm := fun (L' : List (Nat × Obj)) (hL : ∀ w, Rep B0 w0 L' w → Rep B0 w0 L w) (w : World) (hw : Rep B0 w0 L' w) => xFx (p := p) (g := g) (h := h) hq (hA.out.mono hL) hn s (hs.out.trans ⟨fun hh => hh.2.2, fun hh => ⟨by omega, hno.out, hh⟩⟩) hw
    clear hK hi hA hno hs h0
    repeat (first | (obtain ⟨x, tm', e, ht'⟩ := xAc ht; clear ht; subst e; have ht := ht'; clear ht') | (obtain ⟨tm', e, ht'⟩ := xAa ht; clear ht; subst e; have ht := ht'; clear ht'))
    obtain rfl := xAe ht
    clear ht
    go_wp2_with (first | (refine' aVq hR ?_) | (go_at_call 31; refine (cm _ (fun w hw => hw.drop1) _ hR).mono ?_; clear hR; rintro e w ⟨rfl, hR⟩))
    go_ret
    exact ⟨rfl, hR.drop1⟩
  ·have hin : i < n := by omega
   have g1 : (i : Int) < (n : Int) := by omega
   obtain ⟨bb, off, rfl, hx⟩ := hA.out.at' (by omega)
   obtain ⟨cl, hL⟩ := cutL_run hA.out (by omega : i ≤ n) (by omega)
   have lf := hA.out.lt i hin
   have ld := fun (w : World) (hw : Rep B0 w0 L w) => xBc (hx w hw i hin)
   obtain ⟨x, hxe⟩ : ∃ x, f i = x := ⟨_, rfl⟩
   rw [hxe] at ld lf
   have ldw := ld w hR.drop1
   obtain ⟨b, hb⟩ : ∃ b : Bool, b = true ↔ ∃ j, j < i ∧ f j = x := ⟨decide (∃ j, j < i ∧ f j = x), decide_eq_true_iff⟩
   have cc := fun (L' : List (Nat × Obj)) (h' : ∀ w, Rep B0 w0 L' w → Rep B0 w0 L w) (w : World) (hw : Rep B0 w0 L' w) => pcontains_any lf (hL.mono h') (by omega) b hb hw
   cases b with
   | true =>
    obtain rfl : s = false := by
     cases s
     ·rfl
     ·obtain ⟨j, hj, hf⟩ := hb.1 rfl
      exact absurd (hf.trans hxe.symm) ((hs.out.1 rfl).2.1 i hin j hj)
    clear hK hi hA hik hin hx hxe hno lf hb hL hs ld
    repeat (first | (obtain ⟨x, tm', e, ht'⟩ := xAc ht; clear ht; subst e; have ht := ht'; clear ht') | (obtain ⟨tm', e, ht'⟩ := xAa ht; clear ht; subst e; have ht := ht'; clear ht'))
    obtain rfl := xAe ht
    clear ht
    go_wp2_with (first | (refine' aBq hR ?_; clear hR; intro blk w hR) | (refine' aRq hR ?_; clear hR; intro w hR) | (refine' xBr rfl rfl rfl ldw ?_))
    refine xAd hR [0, 0, 0, 0, 0] [] xBd (by kernel_rfl) rfl rfl (fun K hK => ?_)
    clear hR
    repeat ((first | (refine' xCq (by decide) rfl rfl rfl rfl rfl rfl cl ?ha ?_) | (refine' xAj (by decide) rfl (.inl rfl) rfl ?ha ?_) | (refine' aOq ?ha ?_) | (refine' xEu rfl rfl rfl (xAi Tryz.func126 (by kernel_rfl) (by kernel_rfl) _) (fun w hw => cc _ (fun w hw => hw.drop1.drop1) w hw) ?ha ?_)); try (case ha => simp only [kP, kQ, kA, kB]; try rfl))
    refine xAo (hK _ _ ?_)
    clear hK K
    refine xAr (fun Q hQ => ?_)
    try simp only [List.nil_append, List.cons_append]
    repeat ((fail); (case hk => intro p hp; first | exact absurd hp List.not_mem_nil | (obtain rfl := List.mem_singleton.1 hp; repeat (first | exact List.Mem.head _ | with_reducible assumption | apply mC))); (case ha => simp only [kP, kQ, kA, kB]; try rfl))
    refine xAs (fun w hR => hQ _ _ ?_)
    clear hQ Q
    go_wp2_with (fail)
    go_ret
    exact ⟨rfl, hR.drop1.drop1⟩
   | false =>
    have hnext : ∀ k, k < i + 1 → ∀ j, j < k → f j ≠ f k := fun k hk j hj hf => by
     by_cases hki : k = i
     ·subst hki
      have := hb.2 ⟨j, hj, by rw [hf, hxe]⟩
      cases this
     ·exact hno.out k (by omega) j hj hf
    have ei : IntKind.i64.wrap ((i : Int) + 1) = ((i + 1 : Nat) : Int) := by rw [IntKind.wrap_i64]; omega
    have hi1 : i + 1 ≤ n := by omega
    have hmu : n - (i + 1) < n - i := by omega
    replace hi1 := Held.mk hi1
    replace hmu := Held.mk hmu
    replace hnext := Held.mk hnext
    clear hi hA hik hin hx hxe hno lf hb hL hs ld
    repeat (first | (obtain ⟨x, tm', e, ht'⟩ := xAc ht; clear ht; subst e; have ht := ht'; clear ht') | (obtain ⟨tm', e, ht'⟩ := xAa ht; clear ht; subst e; have ht := ht'; clear ht'))
    obtain rfl := xAe ht
    clear ht
    go_wp2_with (first | (refine' aBq hR ?_; clear hR; intro blk w hR) | (refine' aRq hR ?_; clear hR; intro w hR) | (refine' xBr rfl rfl rfl ldw ?_))
    refine xAd hR [0, 0, 0, 0, 0] [] xBd (by kernel_rfl) rfl rfl (fun K hK => ?_)
    clear hR
    repeat ((first | (refine' xCq (by decide) rfl rfl rfl rfl rfl rfl cl ?ha ?_) | (refine' xAj (by decide) rfl (.inl rfl) rfl ?ha ?_) | (refine' aOq ?ha ?_) | (refine' xEu rfl rfl rfl (xAi Tryz.func126 (by kernel_rfl) (by kernel_rfl) _) (fun w hw => cc _ (fun w hw => hw.drop1.drop1) w hw) ?ha ?_)); try (case ha => simp only [kP, kQ, kA, kB]; try rfl))
    refine xAo (hK _ _ ?_)
    clear hK K
    refine xAr (fun Q hQ => ?_)
    try simp only [List.nil_append, List.cons_append]
    repeat ((fail); (case hk => intro p hp; first | exact absurd hp List.not_mem_nil | (obtain rfl := List.mem_singleton.1 hp; repeat (first | exact List.Mem.head _ | with_reducible assumption | apply mC))); (case ha => simp only [kP, kQ, kA, kB]; try rfl))
    refine xAs (fun w hR => hQ _ _ ?_)
    clear hQ Q
    go_wp2_with (fail)
    exact hK.out (i + 1) _ _ ⟨hi1.out, hnext.out⟩ hmu.out (xAf rfl rfl rfl) hR.drop1
end
end
end Go.Proofs.YtaaahfjpnggkbaaGreatDoor
