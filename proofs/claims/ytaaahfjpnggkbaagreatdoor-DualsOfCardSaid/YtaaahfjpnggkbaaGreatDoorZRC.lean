import Derived.Test.YtaaahfjpnggkbaaGreatDoorZQ
import Derived.Test.YtaaahfjpnggkbaaGreatDoorZRA
set_option linter.unusedSimpArgs false
set_option linter.unusedVariables false
set_option maxRecDepth 100000
set_option maxHeartbeats 20000000
namespace Go.Proofs.YtaaahfjpnggkbaaGreatDoor
open Go.RowKit
section
noncomputable def raP (q x : Nat) : Nat → Nat
 | 0 => sOf q 1
 | k + 1 => mulN (raP q x k) x q
noncomputable def raS (q : Nat) (f : Nat → Nat) (x : Nat) : Nat → Nat
 | 0 => 0
 | k + 1 => (raS q f x k + mulN (f k) (raP q x k) q) % q
theorem raP_lt {q : Nat} (h : 1 < q) (x : Nat) : ∀ k, raP q x k < q
 | 0 => sOf_lt h 1
 | k + 1 => mul_lt' h _ _
theorem raS_lt {q : Nat} (h : 1 < q) (f : Nat → Nat) (x : Nat) : ∀ k, raS q f x k < q
 | 0 => Nat.lt_of_succ_lt h
 | k + 1 => Nat.mod_lt _ (by omega)
section
variable {q : Nat} [NeZero q]
theorem fi_raP (h1 : 1 < q) (x : Nat) : ∀ i, fi q (raP q x i) = fi q x ^ i
 | 0 => by rw [raP, fi_one h1]; grind
 | i + 1 => by rw [raP, fi_mulN, fi_raP h1 x i]; grind
theorem fi_raS (h1 : 1 < q) (f : Nat → Nat) (x : Nat) : ∀ k, fi q (raS q f x k) = H (fun j => fi q (f j)) k (fi q x)
 | 0 => by rw [raS, fi_zero]; rfl
 | k + 1 => by rw [raS, fi_addN, fi_mulN, fi_raP h1, fi_raS h1 f x k, H_last]
theorem ra_at (h1 : 1 < q) {n : Nat} {f : Nat → Nat} (zs : Nat → Nm q) (hz : ∀ j, j < n → (zs j).1 = f j) (x : Nat) : raS q f x n = hvL x (dnN n zs 0) :=
 fi_inj (raS_lt h1 f x n) (hvL_lt h1 x _) (by rw [fi_raS h1, fi_at zs hz])
variable {n : Nat} {f : Nat → Nat}
end
end
section
attribute [local irreducible] Calls Instr.build Instr.buildSlice
section
variable {p q g h : Nat} {B0 : Nat} {w0 w : World} {L : List (Nat × Obj)} {a : Option Addr} {n cp x : Nat} {f : Nat → Nat}
theorem rat_go (hq : q < B) (hA : NAt B0 w0 L a n cp f) (hn : n ≤ 1000000) (h1 : 1 < q) (hf : ∀ j, j < n → f j < q) (hx : x < q) (hR : Rep B0 w0 L w) :
  Calls Tryz.prog 11 #[grp p q g h, .slice a n cp, num x] w fun en w' => en = .returned (.tuple #[num (raS q f x n), .int .i64 0]) ∧ Rep B0 w0 L w' := by
 have hxB := Nat.lt_trans hx hq
 have ca := fun (L' : List (Nat × Obj)) (hL : ∀ w, Rep B0 w0 L' w → Rep B0 w0 L w) (w : World) (hw : Rep B0 w0 L' w) => rall_any (p := p) (g := g) (h := h) hq (hA.mono hL) hn true ⟨fun _ => ⟨h1, hf⟩, fun _ => rfl⟩ hw
 have cb := fun w => xFt (p := p) (g := g) (h := h) (x := x) (b := true) hq hxB ⟨fun _ => ⟨h1, hx⟩, fun _ => rfl⟩ w
 have so := fun (w : World) => rsof_any p q g h 1 hq (by decide) (by decide) w
 replace hf := Held.mk hf
 replace hA := Held.mk hA
 obtain ⟨s1, hs1⟩ : ∃ s, sOf q 1 = s := ⟨_, rfl⟩
 have r0 : raP q x 0 = s1 := hs1
 rw [hs1] at so
 obtain ⟨z0, hz0⟩ : ∃ z, raS q f x 0 = z := ⟨_, rfl⟩
 have hzz : z0 = 0 := hz0.symm
 have bz : ∀ w : World, (Instr.build 24 #[]).run Tryz.prog w = .ok (num z0) w := fun w => by
  rw [hzz, ← xBn]
  kernel_rfl
 go_enter Tryz.func11, Tryz.ntmps11
 go_wp2_with (first | go_skip | (refine' aAq hR ?_; clear hR; intro blk w hR) | (refine' aBq hR ?_; clear hR; intro blk w hR) | (refine' aPq hR ?_) | (refine' aQq hR ?_) | (refine' aFq hR ?_; clear hR; intro w hR) | (refine' aEr hR ?_) | (refine' aHr hR ?_) | (go_at_call 40; refine (ca _ (fun w hw => hw.weaken (by repeat (first | exact List.Sublist.refl _ | apply List.Sublist.cons))) _ hR).mono ?_; clear hR; rintro e w ⟨rfl, hR⟩) | (go_at_call 41; refine (cb _).mono ?_; rintro e w ⟨rfl, hb⟩; replace hR := hR.call hb; clear hb) | (go_at_call 42; refine (so _).mono ?_; rintro e w ⟨rfl, hb⟩; replace hR := hR.call hb; clear hb) | (refine' xIp rfl rfl ?hrun ?_; (case hrun => simp only [List.map_toArray, List.map_cons, List.map_nil]; exact bz _)))
 clear ca cb so bz
 obtain ⟨b9, hb9⟩ : ∃ x, x = blk := ⟨_, rfl⟩
 subst hb9
 obtain ⟨b8, hb8⟩ : ∃ x, x = blk := ⟨_, rfl⟩
 subst hb8
 obtain ⟨b6, hb6⟩ : ∃ x, x = blk := ⟨_, rfl⟩
 subst hb6
 obtain ⟨b5, hb5⟩ : ∃ x, x = blk := ⟨_, rfl⟩
 subst hb5
 obtain ⟨b3, hb3⟩ : ∃ x, x = blk := ⟨_, rfl⟩
 subst hb3
 try simp only [Act.put, kA, kB, List.setIfInBounds_toArray]
 rw [← r0, ← hz0] at hR
 refine' xBh (false :: false :: false :: false :: false :: false :: false :: false :: false :: false :: false :: false :: false :: false :: false :: false :: false :: false :: false :: false :: false :: false :: false :: false :: false :: true :: true :: true :: true :: true :: true :: true :: true :: true :: true :: true :: true :: true :: true :: true :: true :: true :: true :: true :: true :: false :: []) (fun (i : Nat) l => l.set 10 (.int .i64 (i : Int))) (fun i => (b9, .cells (nl (raP q x i)).toArray 24) :: (b8, .cells (nl (raS q f x i)).toArray 24) :: (b6, .cells [Value.int .u64 0, .int .u64 0, .int .u64 0, .int .u64 0].toArray 24) :: (b5, .cells (nl x).toArray 24) :: (b3, .cells (gl p q g h).toArray 26) :: L) (fun i => n - i) (fun i => i ≤ n) 0 ?h0 ?hO ?hR ?hs
 case h0 => exact xAn rfl rfl rfl
 case hO => exact Nat.zero_le _
 case hR => exact hR
 case hs =>
  clear hR r0 hz0 hzz hs1
  intro i tm w hi ht hR K hK
  have g0 : 0 ≤ (i : Int) := by omega
  by_cases hik : i = n
  ·subst hik
   have t1 : ¬ (i : Int) < (i : Int) := by omega
   replace hR := (show Rep _ _ ((b9, _) :: (b8, .cells (nl (raS q f x i)).toArray 24) :: _) _ from hR)
   obtain ⟨S, hS⟩ : ∃ S, raS q f x i = S := ⟨_, rfl⟩
   rw [hS] at hR
   replace hS := Held.mk hS
   clear hK hi hA hf
   repeat (first | (obtain ⟨x, tm', e, ht'⟩ := xAg ht; clear ht; subst e; have ht := ht'; clear ht') | (obtain ⟨tm', e, ht'⟩ := xAd ht; clear ht; subst e; have ht := ht'; clear ht'))
   obtain rfl := xAl ht
   clear ht
   go_wp2_with (first | (refine' aAq hR ?_; clear hR; intro blk w hR) | (refine' aBq hR ?_; clear hR; intro blk w hR) | (refine' aPq hR ?_) | (refine' aQq hR ?_) | (refine' aFq hR ?_; clear hR; intro w hR) | fail)
   (refine' bodyPost_ret (xAu Tryz.results11 rfl (hR.loadAll (P := Tryz.prog) (ty := 24) ?hm ?hn)) rfl ⟨?_, hR.weaken (by repeat (first | exact List.Sublist.refl _ | apply List.Sublist.cons))⟩; (case hm => repeat (first | exact .head _ | apply mC)); (case hn => rfl))
   rw [hS.out]
   rfl
  ·have hin : i < n := by omega
   have g1 : (i : Int) < (n : Int) := by omega
   obtain ⟨bb, off, rfl, hxx⟩ := hA.out.at' (by omega)
   have ly := hf.out i hin
   obtain ⟨y, hye⟩ : ∃ y, f i = y := ⟨_, rfl⟩
   obtain ⟨P0, hP0⟩ : ∃ y, raP q x i = y := ⟨_, rfl⟩
   obtain ⟨P1, hP1⟩ : ∃ y, raP q x (i + 1) = y := ⟨_, rfl⟩
   obtain ⟨S0, hS0⟩ : ∃ y, raS q f x i = y := ⟨_, rfl⟩
   obtain ⟨S1, hS1⟩ : ∃ y, raS q f x (i + 1) = y := ⟨_, rfl⟩
   obtain ⟨m, hm⟩ : ∃ z, mulN y P0 q = z := ⟨_, rfl⟩
   have lP : P0 < q := by rw [← hP0]; exact raP_lt h1 x i
   have lS : S0 < q := by rw [← hS0]; exact raS_lt h1 f x i
   rw [hye] at ly
   have lm : m < q := by rw [← hm]; exact mul_lt' h1 _ _
   have eP : mulN P0 x q = P1 := by rw [← hP1, raP, hP0]
   have eS : (S0 + m) % q = S1 := by rw [← hS1, raS, hS0, hye, hP0, hm]
   have c1 := fun w => rtimes_lit (p := p) (g := g) (h := h) h1 hq ly lP hm w
   have c2 := fun w => rplus_lit (p := p) (g := g) (h := h) h1 hq lS lm eS w
   have c3 := fun w => rtimes_lit (p := p) (g := g) (h := h) h1 hq lP hx eP w
   have ld := fun (L' : List (Nat × Obj)) (hL : ∀ w, Rep B0 w0 L' w → Rep B0 w0 L w) (w : World) (hw : Rep B0 w0 L' w) => xBt (hxx w (hL w hw) i hin)
   rw [hye] at ld
   have ei : IntKind.i64.wrap ((i : Int) + 1) = ((i + 1 : Nat) : Int) := by rw [IntKind.wrap_i64]; omega
   have hi1 : i + 1 ≤ n := by omega
   have hmu : n - (i + 1) < n - i := by omega
   replace hR := (show Rep _ _ ((b9, .cells (nl (raP q x i)).toArray 24) :: (b8, .cells (nl (raS q f x i)).toArray 24) :: _) _ from hR)
   rw [hP0, hS0] at hR
   replace hi1 := Held.mk hi1
   replace hmu := Held.mk hmu
   replace hP1 := Held.mk hP1
   replace hS1 := Held.mk hS1
   clear hi hA hik hin hxx hye hP0 hS0 hm lP lS ly lm eP eS hf
   repeat (first | (obtain ⟨x, tm', e, ht'⟩ := xAg ht; clear ht; subst e; have ht := ht'; clear ht') | (obtain ⟨tm', e, ht'⟩ := xAd ht; clear ht; subst e; have ht := ht'; clear ht'))
   obtain rfl := xAl ht
   clear ht
   go_wp2_with (first | (refine' aAq hR ?_; clear hR; intro blk w hR) | (refine' aBq hR ?_; clear hR; intro blk w hR) | (refine' aPq hR ?_) | (refine' aQq hR ?_) | (refine' aFq hR ?_; clear hR; intro w hR) | fail)
   refine xAe hR [0, 0, 0, 0, 0, 0, 0, 0, 0, 0, 2] [] xBo (by kernel_rfl) rfl rfl (fun K hK => ?_)
   clear hR
   repeat ((first | (refine xAy ?_) | (refine' xAk (by decide) rfl (.inl rfl) rfl ?ha ?_) | (refine' xAk (by decide) rfl (.inr rfl) rfl ?ha ?_) | (refine' aSq ?ha ?_) | (refine' aTq ?ha ?_) | (refine' aUq ?ha ?_) | (refine' aVq ?ha ?_) | (refine' aWq ?ha ?_) | ((first | refine' xAc (by decide) rfl rfl rfl rfl (fun w => ?hq) ?ha ?_ | refine' xAs (by decide) rfl rfl rfl rfl (fun w => ?hq) ?ha ?_ | refine' xAi (by decide) rfl rfl rfl (fun w => ?hq) ?ha ?_ | refine' xAb (by decide) rfl rfl rfl (fun w => ?hq) ?ha ?_ | refine' xAh (by decide) rfl rfl rfl (fun w => ?hq) ?ha ?_ | refine' xAq (by decide) rfl rfl rfl rfl (fun w => ?hq) ?ha ?_ | refine' xAr (by decide) rfl rfl rfl rfl rfl rfl (fun w => ?hq) ?ha ?_ | refine' xAo (by decide) rfl rfl (fun w => ?hq) ?ha ?_ | refine' xAj (by decide) rfl rfl rfl (fun w => ?hq) ?ha ?_ | refine' xAp (by decide) rfl rfl rfl (fun w => ?hq) ?ha ?_); (case hq => go_simp; try rfl)) | (refine' xAf (by decide) rfl rfl rfl ?ha ?_) | (refine' xAx (by decide) rfl rfl rfl rfl ?ha ?_) | (refine' xAw (by decide) rfl ?ha ?_) | (refine' xBl rfl rfl rfl (ld _ (fun w hw => hw.weaken (by repeat (first | exact List.Sublist.refl _ | apply List.Sublist.cons)))) ?ha ?_; (case ha => simp only [kP, kQ, kA, kB]; try rfl)) | (refine' xAt rfl rfl rfl (xAv Tryz.func44 (by kernel_rfl) (by kernel_rfl) _) (fun w => c1 w) ?ha ?_) | (refine' xAt rfl rfl rfl (xAv Tryz.func43 (by kernel_rfl) (by kernel_rfl) _) (fun w => c2 w) ?ha ?_)); try (case ha => simp only [kP, kQ, kA, kB]; try rfl))
   refine xBb (hK _ _ ?_)
   clear hK K
   refine xBe (fun Q hQ => ?_)
   try simp only [List.nil_append, List.cons_append]
   repeat ((first | refine' xAm rfl (.inl rfl) rfl ?hk ?ha ?_ | refine' xAm rfl (.inr rfl) rfl ?hk ?ha ?_ | (refine' aMq ?hk ?ha ?_) | (refine' aNq ?hk ?ha ?_) | (refine' aOq ?hk ?ha ?_) | (refine' xAz rfl (fun w => ?hq) ?hk ?ha ?_; (case hq => go_simp; try rfl))); (case hk => intro p hp; first | exact absurd hp List.not_mem_nil | (obtain rfl := List.mem_singleton.1 hp; repeat (first | exact List.Mem.head _ | with_reducible assumption | apply mC))); (case ha => simp only [kP, kQ, kA, kB]; try rfl))
   refine xBd (fun w hR => hQ _ _ ?_)
   clear hQ Q
   go_wp2_with (first | (refine' aAq hR ?_; clear hR; intro blk w hR) | (refine' aBq hR ?_; clear hR; intro blk w hR) | (refine' aPq hR ?_) | (refine' aQq hR ?_) | (refine' aFq hR ?_; clear hR; intro w hR) | (go_at_call 44; refine (c3 _).mono ?_; rintro e w ⟨rfl, hb⟩; replace hR := hR.call hb; clear hb))
   refine hK.out (i + 1) _ _ hi1.out hmu.out (xAn rfl rfl rfl) ?_
   rw [hP1.out, hS1.out]
   exact hR
end
end
end Go.Proofs.YtaaahfjpnggkbaaGreatDoor
