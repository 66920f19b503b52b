import Derived.Test.YtaaahfjpnggkbaaGreatDoorHRA
import Derived.Test.YtaaahfjpnggkbaaGreatDoorHBC
import Derived.Test.YtaaahfjpnggkbaaGreatDoorHQ
import Derived.Test.YtaaahfjpnggkbaaGreatDoorHRef10F
set_option linter.unusedSimpArgs false
set_option linter.unusedVariables false
set_option maxRecDepth 100000
set_option maxHeartbeats 20000000
namespace Go.Proofs.YtaaahfjpnggkbaaGreatDoor
open Go.RowKit
section
attribute [local irreducible] Calls Instr.build Instr.buildSlice
section
variable {p q g h : Nat} {B0 : Nat} {w0 w : World} {L : List (Nat × Obj)} {a : Option Addr} {n cp x : Nat} {f : Nat → Nat}
theorem rat_bad (hq : q < B) (hx : x < B) (hA : NAt B0 w0 L a n cp f) (hn : n ≤ 1000000) (hno : ¬ (1 < q ∧ (∀ j, j < n → f j < q) ∧ x < q)) (hR : Rep B0 w0 L w) :
  Calls Tryz.prog 11 #[grp p q g h, .slice a n cp, num x] w fun en w' => en = .returned (.tuple #[num 0, .int .i64 1]) ∧ Rep B0 w0 L w' := by
 classical
 by_cases hall : 1 < q ∧ ∀ j, j < n → f j < q
 ·have ca := fun (L' : List (Nat × Obj)) (hL : ∀ w, Rep B0 w0 L' w → Rep B0 w0 L w) (w : World) (hw : Rep B0 w0 L' w) => xId (p := p) (g := g) (h := h) hq (hA.mono hL) hn true ⟨fun _ => hall, fun _ => rfl⟩ hw
  have cb := fun w => xDx (p := p) (g := g) (h := h) (x := x) (b := false) hq hx ⟨fun hh => (nomatch hh), fun hh => absurd ⟨hall.1, hall.2, hh.2⟩ hno⟩ w
  clear hA hno hall
  go_enter Tryz.func11, Tryz.ntmps11
  go_wp2_with (first | (refine' aAq hR ?_; clear hR; intro blk w hR) | (refine' aBq hR ?_; clear hR; intro blk w hR) | (refine' aNq hR ?_) | (refine' aFq hR ?_; clear hR; intro w hR) | (refine' aVq hR ?_) | (go_at_call 40; refine (ca _ (fun w hw => hw.weaken (by repeat (first | exact List.Sublist.refl _ | apply List.Sublist.cons))) _ hR).mono ?_; clear hR; rintro e w ⟨rfl, hR⟩) | (go_at_call 41; refine (cb _).mono ?_; rintro e w ⟨rfl, hb⟩; replace hR := hR.call hb; clear hb))
  (refine' bodyPost_ret (xAh Tryz.results11 rfl (hR.loadAll (P := Tryz.prog) (ty := 24) ?hm ?hn)) rfl ⟨?_, hR.weaken (by repeat (first | exact List.Sublist.refl _ | apply List.Sublist.cons))⟩; (case hm => repeat (first | exact .head _ | apply mC)); (case hn => rfl))
  rw [← xBe]
  rfl
 ·have ca := fun (L' : List (Nat × Obj)) (hL : ∀ w, Rep B0 w0 L' w → Rep B0 w0 L w) (w : World) (hw : Rep B0 w0 L' w) => xId (p := p) (g := g) (h := h) hq (hA.mono hL) hn false ⟨fun hh => (nomatch hh), fun hh => absurd hh hall⟩ hw
  clear hA hno hall
  go_enter Tryz.func11, Tryz.ntmps11
  go_wp2_with (first | go_skip | (refine' aAq hR ?_; clear hR; intro blk w hR) | (refine' aBq hR ?_; clear hR; intro blk w hR) | (refine' aNq hR ?_) | (refine' aFq hR ?_; clear hR; intro w hR) | (go_at_call 40; refine (ca _ (fun w hw => hw.weaken (by repeat (first | exact List.Sublist.refl _ | apply List.Sublist.cons))) _ hR).mono ?_; clear hR; rintro e w ⟨rfl, hR⟩))
  (refine' bodyPost_ret (xAh Tryz.results11 rfl (hR.loadAll (P := Tryz.prog) (ty := 24) ?hm ?hn)) rfl ⟨?_, hR.weaken (by repeat (first | exact List.Sublist.refl _ | apply List.Sublist.cons))⟩; (case hm => repeat (first | exact .head _ | apply mC)); (case hn => rfl))
  rw [← xBe]
  rfl
theorem rat_go (hq : q < B) (hA : NAt B0 w0 L a n cp f) (hn : n ≤ 1000000) (h1 : 1 < q) (hf : ∀ j, j < n → f j < q) (hx : x < q) (hR : Rep B0 w0 L w) :
  Calls Tryz.prog 11 #[grp p q g h, .slice a n cp, num x] w fun en w' => en = .returned (.tuple #[num (raS q f x n), .int .i64 0]) ∧ Rep B0 w0 L w' := by
 have hxB := Nat.lt_trans hx hq
 have ca := fun (L' : List (Nat × Obj)) (hL : ∀ w, Rep B0 w0 L' w → Rep B0 w0 L w) (w : World) (hw : Rep B0 w0 L' w) => xId (p := p) (g := g) (h := h) hq (hA.mono hL) hn true ⟨fun _ => ⟨h1, hf⟩, fun _ => rfl⟩ hw
 have cb := fun w => xDx (p := p) (g := g) (h := h) (x := x) (b := true) hq hxB ⟨fun _ => ⟨h1, hx⟩, fun _ => rfl⟩ w
 have so := fun (w : World) => xIr p q g h 1 hq (by decide) (by decide) w
 replace hf := Held.mk hf
 replace hA := Held.mk hA
 obtain ⟨s1, hs1⟩ : ∃ s, sOf q 1 = s := ⟨_, rfl⟩
 have r0 : raP q x 0 = s1 := hs1
 rw [hs1] at so
 obtain ⟨z0, hz0⟩ : ∃ z, raS q f x 0 = z := ⟨_, rfl⟩
 have hzz : z0 = 0 := hz0.symm
 have bz : ∀ w : World, (Instr.build 24 #[]).run Tryz.prog w = .ok (num z0) w := fun w => by
  rw [hzz, ← xBe]
  kernel_rfl
 go_enter Tryz.func11, Tryz.ntmps11
 go_wp2_with (first | (refine' aAq hR ?_; clear hR; intro blk w hR) | (refine' aBq hR ?_; clear hR; intro blk w hR) | (refine' aNq hR ?_) | (refine' aFq hR ?_; clear hR; intro w hR) | (refine' aVq hR ?_) | (go_at_call 40; refine (ca _ (fun w hw => hw.weaken (by repeat (first | exact List.Sublist.refl _ | apply List.Sublist.cons))) _ hR).mono ?_; clear hR; rintro e w ⟨rfl, hR⟩) | (go_at_call 41; refine (cb _).mono ?_; rintro e w ⟨rfl, hb⟩; replace hR := hR.call hb; clear hb) | (go_at_call 42; refine (so _).mono ?_; rintro e w ⟨rfl, hb⟩; replace hR := hR.call hb; clear hb) | (refine' xIs rfl rfl ?hrun ?_; (case hrun => simp only [List.map_toArray, List.map_cons, List.map_nil]; exact bz _)))
 clear ca cb so bz
 obtain ⟨b9, hb9⟩ : ∃ x, x = blk := ⟨_, rfl⟩
 subst hb9
 obtain ⟨b8, hb8⟩ : ∃ x, x = blk := ⟨_, rfl⟩
 subst hb8
 obtain ⟨b6, hb6⟩ : ∃ x, x = blk := ⟨_, rfl⟩
 subst hb6
 obtain ⟨b5, hb5⟩ : ∃ x, x = blk := ⟨_, rfl⟩
 subst hb5
 obtain ⟨b3, hb3⟩ : ∃ x, x = blk := ⟨_, rfl⟩
 subst hb3
 try simp only [Act.put, kA, kB, List.setIfInBounds_toArray]
 rw [← r0, ← hz0] at hR
 refine' xAv (false :: false :: false :: false :: false :: false :: false :: false :: false :: false :: false :: false :: false :: false :: false :: false :: false :: false :: false :: false :: false :: false :: false :: false :: false :: true :: true :: true :: true :: true :: true :: true :: true :: true :: true :: true :: true :: true :: true :: true :: true :: true :: true :: true :: true :: false :: []) (fun (i : Nat) l => l.set 10 (.int .i64 (i : Int))) (fun i => (b9, .cells (nl (raP q x i)).toArray 24) :: (b8, .cells (nl (raS q f x i)).toArray 24) :: (b6, .cells [Value.int .u64 0, .int .u64 0, .int .u64 0, .int .u64 0].toArray 24) :: (b5, .cells (nl x).toArray 24) :: (b3, .cells (gl p q g h).toArray 26) :: L) (fun i => n - i) (fun i => i ≤ n) 0 ?h0 ?hO ?hR ?hs
 case h0 => exact xAf rfl rfl rfl
 case hO => exact Nat.zero_le _
 case hR => exact hR
 case hs =>
  clear hR r0 hz0 hzz hs1
  intro i tm w hi ht hR K hK
  have g0 : 0 ≤ (i : Int) := by omega
  by_cases hik : i = n
  ·subst hik
   have t1 : ¬ (i : Int) < (i : Int) := by omega
   replace hR := (show Rep _ _ ((b9, _) :: (b8, .cells (nl (raS q f x i)).toArray 24) :: _) _ from hR)
   obtain ⟨S, hS⟩ : ∃ S, raS q f x i = S := ⟨_, rfl⟩
   rw [hS] at hR
   replace hS := Held.mk hS
   clear hK hi hA hf
   repeat (first | (obtain ⟨x, tm', e, ht'⟩ := xAc ht; clear ht; subst e; have ht := ht'; clear ht') | (obtain ⟨tm', e, ht'⟩ := xAa ht; clear ht; subst e; have ht := ht'; clear ht'))
   obtain rfl := xAe ht
   clear ht
   go_wp2_with (first | (refine' aNq hR ?_) | (refine' aFq hR ?_; clear hR; intro w hR))
   (refine' bodyPost_ret (xAh Tryz.results11 rfl (hR.loadAll (P := Tryz.prog) (ty := 24) ?hm ?hn)) rfl ⟨?_, hR.weaken (by repeat (first | exact List.Sublist.refl _ | apply List.Sublist.cons))⟩; (case hm => repeat (first | exact .head _ | apply mC)); (case hn => rfl))
   rw [hS.out]
   rfl
  ·have hin : i < n := by omega
   have g1 : (i : Int) < (n : Int) := by omega
   obtain ⟨bb, off, rfl, hxx⟩ := hA.out.at' (by omega)
   have ly := hf.out i hin
   obtain ⟨y, hye⟩ : ∃ y, f i = y := ⟨_, rfl⟩
   obtain ⟨P0, hP0⟩ : ∃ y, raP q x i = y := ⟨_, rfl⟩
   obtain ⟨P1, hP1⟩ : ∃ y, raP q x (i + 1) = y := ⟨_, rfl⟩
   obtain ⟨S0, hS0⟩ : ∃ y, raS q f x i = y := ⟨_, rfl⟩
   obtain ⟨S1, hS1⟩ : ∃ y, raS q f x (i + 1) = y := ⟨_, rfl⟩
   obtain ⟨m, hm⟩ : ∃ z, mulN y P0 q = z := ⟨_, rfl⟩
   have lP : P0 < q := by rw [← hP0]; exact raP_lt h1 x i
   have lS : S0 < q := by rw [← hS0]; exact raS_lt h1 f x i
   rw [hye] at ly
   have lm : m < q := by rw [← hm]; exact xJk h1 _ _
   have eP : mulN P0 x q = P1 := by rw [← hP1, raP, hP0]
   have eS : (S0 + m) % q = S1 := by rw [← hS1, raS, hS0, hye, hP0, hm]
   have c1 := fun w => xGp (p := p) (g := g) (h := h) h1 hq ly lP hm w
   have c2 := fun w => rplus_lit (p := p) (g := g) (h := h) h1 hq lS lm eS w
   have c3 := fun w => xGp (p := p) (g := g) (h := h) h1 hq lP hx eP w
   have ld := fun (L' : List (Nat × Obj)) (hL : ∀ w, Rep B0 w0 L' w → Rep B0 w0 L w) (w : World) (hw : Rep B0 w0 L' w) => xBc (hxx w (hL w hw) i hin)
   rw [hye] at ld
   have ei : IntKind.i64.wrap ((i : Int) + 1) = ((i + 1 : Nat) : Int) := by rw [IntKind.wrap_i64]; omega
   have hi1 : i + 1 ≤ n := by omega
   have hmu : n - (i + 1) < n - i := by omega
   replace hR := (show Rep _ _ ((b9, .cells (nl (raP q x i)).toArray 24) :: (b8, .cells (nl (raS q f x i)).toArray 24) :: _) _ from hR)
   rw [hP0, hS0] at hR
   replace hi1 := Held.mk hi1
   replace hmu := Held.mk hmu
   replace hP1 := Held.mk hP1
   replace hS1 := Held.mk hS1
   clear hi hA hik hin hxx hye hP0 hS0 hm lP lS ly lm eP eS hf
   repeat (first | (obtain ⟨x, tm', e, ht'⟩ := xAc ht; clear ht; subst e; have ht := ht'; clear ht') | (obtain ⟨tm', e, ht'⟩ := xAa ht; clear ht; subst e; have ht := ht'; clear ht'))
   obtain rfl := xAe ht
   clear ht
   go_wp2_with (fail)
   refine xAd hR [0, 0, 0, 0, 0, 0, 0, 0, 0, 0, 2] [] xBd (by kernel_rfl) rfl rfl (fun K hK => ?_)
   clear hR
   repeat ((first | (refine xAp ?_) | (refine' xAj (by decide) rfl (.inl rfl) rfl ?ha ?_) | (refine' aOq ?ha ?_) | ((refine' xAg (by decide) rfl rfl rfl rfl (fun w => ?hq) ?ha ?_); (case hq => go_simp; try rfl)) | (refine' xAn rfl rfl rfl (ld _ (fun w hw => hw.weaken (by repeat (first | exact List.Sublist.refl _ | apply List.Sublist.cons)))) ?ha ?_; (case ha => simp only [kP, kQ, kA, kB]; try rfl)) | (refine' xAk rfl rfl rfl (xAi Tryz.func44 (by kernel_rfl) (by kernel_rfl) _) (fun w => c1 w) ?ha ?_) | (refine' xAk rfl rfl rfl (xAi Tryz.func43 (by kernel_rfl) (by kernel_rfl) _) (fun w => c2 w) ?ha ?_)); try (case ha => simp only [kP, kQ, kA, kB]; try rfl))
   refine xAo (hK _ _ ?_)
   clear hK K
   refine xAr (fun Q hQ => ?_)
   try simp only [List.nil_append, List.cons_append]
   repeat ((refine' aKq ?hk ?ha ?_); (case hk => intro p hp; first | exact absurd hp List.not_mem_nil | (obtain rfl := List.mem_singleton.1 hp; repeat (first | exact List.Mem.head _ | with_reducible assumption | apply mC))); (case ha => simp only [kP, kQ, kA, kB]; try rfl))
   refine xAs (fun w hR => hQ _ _ ?_)
   clear hQ Q
   go_wp2_with (first | (refine' aNq hR ?_) | (refine' aFq hR ?_; clear hR; intro w hR) | (go_at_call 44; refine (c3 _).mono ?_; rintro e w ⟨rfl, hb⟩; replace hR := hR.call hb; clear hb))
   refine hK.out (i + 1) _ _ hi1.out hmu.out (xAf rfl rfl rfl) ?_
   rw [hP1.out, hS1.out]
   exact hR
end
end
section
attribute [local irreducible] Calls Instr.build Instr.buildSlice
section
variable {p q g h : Nat} {B0 : Nat} {w0 : World} {n m : Nat} {f V : Nat → Nat} {x : Nat}
theorem uni_at (hp : p < B) (hq : q < B) (hx : x < B) (hn : n ≤ 1000) : ∃ (rv : Nat) (er : Int), rv < B ∧
  (∀ {L : List (Nat × Obj)} {w : World} {a : Option Addr} {cp : Nat}, NAt B0 w0 L a n cp f → Rep B0 w0 L w → Calls Tryz.prog 8 #[grp p q g h, .slice a n cp, num x] w fun e w' => e = .returned (.tuple #[num rv, .int .i64 er]) ∧ Rep B0 w0 L w') ∧
  (∀ {L : List (Nat × Obj)} {w : World} {a : Option Addr} {cp : Nat}, NAt B0 w0 L a n cp f → Rep B0 w0 L w → Calls Tryz.prog 11 #[grp p q g h, .slice a n cp, num x] w fun e w' => e = .returned (.tuple #[num rv, .int .i64 er]) ∧ Rep B0 w0 L w') := by
 classical
 by_cases hok : okA q n f x
 ·obtain ⟨⟨h1, hf⟩, hxq⟩ := hok
  have e : raS q f x n = atN q f n x := by
   have hq0 : 0 < q := by omega
   haveI : NeZero q := ⟨by omega⟩
   unfold atN
   rw [dif_pos hq0]
   exact ra_at h1 (zsOf hq0 f) (fun j hj => by unfold zsOf; rw [dif_pos (hf j hj)]) x
  refine ⟨atN q f n x, 0, Nat.lt_trans (atN_lt h1 _ _ _) hq, fun hA hR => at_yes hp hq hn hA ⟨⟨h1, hf⟩, hxq⟩ hR, fun hA hR => ?_⟩
  have := rat_go (p := p) (g := g) (h := h) hq hA (by omega) h1 hf hxq hR
  rwa [e] at this
 ·exact ⟨0, 1, xEy, fun hA hR => at_no hp hq hx hn hA hok hR, fun hA hR => rat_bad hq hx hA (by omega) (fun ⟨h1, h2, h3⟩ => hok ⟨⟨h1, h2⟩, h3⟩) hR⟩
end
end
end Go.Proofs.YtaaahfjpnggkbaaGreatDoor
