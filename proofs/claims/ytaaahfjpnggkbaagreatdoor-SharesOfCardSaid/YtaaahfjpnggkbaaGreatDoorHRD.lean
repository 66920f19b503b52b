import Derived.Test.YtaaahfjpnggkbaaGreatDoorHRA
import Derived.Test.YtaaahfjpnggkbaaGreatDoorHE
set_option linter.unusedSimpArgs false
set_option linter.unusedVariables false
set_option maxRecDepth 100000
set_option maxHeartbeats 20000000
namespace Go.Proofs.YtaaahfjpnggkbaaGreatDoor
open Go.RowKit
section
attribute [local irreducible] Calls Instr.build Instr.buildSlice
section
variable {p q g h : Nat} {B0 : Nat} {w0 w : World} {L : List (Nat × Obj)} {a : Option Addr} {n cp i : Nat} {f : Nat → Nat}
theorem runder_any {r : Nat} (h1 : 1 < q) (hq : q < B) (hf : ∀ j, j < n → f j < q) (hA : NAt B0 w0 [] a n cp f) (hn : n ≤ 1000000) (hi : i < n) (s : Bool) (hs : s = true ↔ undOK q n f i) (hr : (if s = true then ruP q f i n else 0) = r) (hR : Rep B0 w0 L w) :
  Calls Tryz.prog 46 #[grp p q g h, .slice a n cp, .int .i64 (i : Int)] w fun en w' => en = .returned (.tuple #[num r, .bool s]) ∧ Rep B0 w0 L w' := by
 have so := fun (w : World) => xIr p q g h 1 hq (by decide) (by decide) w
 have gi0 : 0 ≤ (i : Int) := by omega
 have gi1 : (i : Int) < (n : Int) := by omega
 obtain ⟨bb, off, rfl, hxx⟩ := hA.at' (by omega)
 have lx := hf i hi
 obtain ⟨x, hxe⟩ : ∃ x, f i = x := ⟨_, rfl⟩
 have ldx := fun (L : List (Nat × Obj)) (w : World) (hw : Rep B0 w0 L w) => xBc (hxx w (hw.weaken (List.nil_sublist _)) i hi)
 rw [hxe] at ldx lx
 obtain ⟨s1, hs1⟩ : ∃ s, sOf q 1 = s := ⟨_, rfl⟩
 have r0 : ruP q f i 0 = s1 := hs1
 rw [hs1] at so
 have hnil : ∀ w' : World, Rep B0 w0 L w' → Rep B0 w0 L w' := fun _ h => h
 replace hf := Held.mk hf
 replace hA := Held.mk hA
 replace hxx := Held.mk hxx
 replace hs := Held.mk hs
 replace hr := Held.mk hr
 replace hxe := Held.mk hxe
 go_enter Tryz.func46, Tryz.ntmps46
 go_wp2_with (first | (refine' aAq hR ?_; clear hR; intro blk w hR) | (refine' aBq hR ?_; clear hR; intro blk w hR) | (refine' aNq hR ?_) | (refine' aFq hR ?_; clear hR; intro w hR) | (go_at_call 42; refine (so _).mono ?_; rintro e w ⟨rfl, hb⟩; replace hR := hR.call hb; clear hb))
 clear so
 obtain ⟨b8, hb8⟩ : ∃ x, x = blk := ⟨_, rfl⟩
 subst hb8
 obtain ⟨b6, hb6⟩ : ∃ x, x = blk := ⟨_, rfl⟩
 subst hb6
 obtain ⟨b3, hb3⟩ : ∃ x, x = blk := ⟨_, rfl⟩
 subst hb3
 try simp only [Act.put, kA, kB, List.setIfInBounds_toArray]
 rw [← r0] at hR
 refine' xAv (false :: false :: false :: false :: false :: false :: false :: false :: false :: false :: true :: true :: false :: false :: true :: true :: true :: true :: true :: true :: true :: true :: true :: true :: true :: true :: true :: true :: true :: true :: true :: true :: true :: true :: true :: true :: true :: true :: true :: true :: true :: true :: true :: true :: true :: false :: []) (fun (k : Nat) l => l.set 9 (.int .i64 (k : Int))) (fun k => (b8, .cells (nl (ruP q f i k)).toArray 24) :: (b6, .cells [Value.int .u64 0, .int .u64 0, .int .u64 0, .int .u64 0].toArray 24) :: (b3, .cells (gl p q g h).toArray 26) :: L) (fun k => n - k) (fun k => k ≤ n ∧ ∀ j, j < k → j ≠ i → Nat.gcd (subN (f i) (f j) q) q = 1) 0 ?h0 ?hO ?hR ?hs
 case h0 => exact xAf rfl rfl rfl
 case hO => exact ⟨Nat.zero_le _, fun j hj => absurd hj (Nat.not_lt_zero j)⟩
 case hR => exact hR
 case hs =>
  clear hR r0 hs1
  intro k tm w hk ht hR K hK
  obtain ⟨hk, hall⟩ := hk
  replace hall := Held.mk hall
  have g0 : 0 ≤ (k : Int) := by omega
  by_cases hkn : k = n
  ·subst hkn
   have t1 : ¬ (k : Int) < (k : Int) := by omega
   obtain rfl : s = true := hs.out.2 hall.out
   have hr2 : ruP q f i k = r := by rw [← hr.out, if_pos rfl]
   replace hR := (show Rep _ _ ((b8, .cells (nl (ruP q f i k)).toArray 24) :: _) _ from hR)
   rw [hr2] at hR
   clear hK hk hA hf hs hall hxx hxe ldx lx hr hr2
   repeat (first | (obtain ⟨x, tm', e, ht'⟩ := xAc ht; clear ht; subst e; have ht := ht'; clear ht') | (obtain ⟨tm', e, ht'⟩ := xAa ht; clear ht; subst e; have ht := ht'; clear ht'))
   obtain rfl := xAe ht
   clear ht
   go_wp2_with (first | (refine' aNq hR ?_) | (refine' aFq hR ?_; clear hR; intro w hR))
   (refine' bodyPost_ret (xAh Tryz.results46 rfl (hR.loadAll (P := Tryz.prog) (ty := 24) ?hm ?hn)) rfl ⟨rfl, hR.weaken (by repeat (first | exact List.Sublist.refl _ | apply List.Sublist.cons))⟩; (case hm => repeat (first | exact .head _ | apply mC)); (case hn => rfl))
  have hkl : k < n := by omega
  have g1 : (k : Int) < (n : Int) := by omega
  have ei : IntKind.i64.wrap ((k : Int) + 1) = ((k + 1 : Nat) : Int) := by rw [IntKind.wrap_i64]; omega
  have hk1 : k + 1 ≤ n := by omega
  have hmu : n - (k + 1) < n - k := by omega
  replace hk1 := Held.mk hk1
  replace hmu := Held.mk hmu
  by_cases hki : k = i
  ·subst hki
   have t2 : ((k : Int) != (k : Int)) = false := by simp
   have hnext : ∀ j, j < k + 1 → j ≠ k → Nat.gcd (subN (f k) (f j) q) q = 1 := fun j hj hn => hall.out j (by omega) hn
   have e1 : ruP q f k (k + 1) = ruP q f k k := by rw [ruP, if_pos rfl]
   replace e1 := Held.mk e1
   replace hnext := Held.mk hnext
   generalize ruP q f k k = R0 at *
   clear hk hA hf hs hall hxx hxe ldx lx hr hkn hkl
   repeat (first | (obtain ⟨x, tm', e, ht'⟩ := xAc ht; clear ht; subst e; have ht := ht'; clear ht') | (obtain ⟨tm', e, ht'⟩ := xAa ht; clear ht; subst e; have ht := ht'; clear ht'))
   obtain rfl := xAe ht
   clear ht
   go_wp2_with (fail)
   refine hK.out (k + 1) _ _ ⟨hk1.out, hnext.out⟩ hmu.out (xAf rfl rfl rfl) ?_
   rw [e1.out]
   exact hR
  ·have t2 : ¬ (k : Int) = (i : Int) := by omega
   have t3 : ((k : Int) != (i : Int)) = true := by simp; omega
   have t4 : ((k : Int) == (i : Int)) = false := by simp; omega
   have ly := hf.out k hkl
   obtain ⟨y, hye⟩ : ∃ y, f k = y := ⟨_, rfl⟩
   have ldy := fun (L : List (Nat × Obj)) (w : World) (hw : Rep B0 w0 L w) => xBc (hxx.out w (hw.weaken (List.nil_sublist _)) k hkl)
   rw [hye] at ldy ly
   obtain ⟨d, hd⟩ : ∃ d, subN x y q = d := ⟨_, rfl⟩
   have ld : d < q := by rw [← hd]; exact subN_lt h1 _ _
   have c1 := fun w => rless_lit (p := p) (g := g) (h := h) h1 hq lx ly hd w
   have ok : okE d q := ⟨h1, ld⟩
   have c2 := fun w => rsinv_any (p := p) (g := g) (h := h) (Nat.lt_trans ld hq) hq w
   rw [if_pos ok] at c2
   have hD : subN (f i) (f k) q = d := by rw [hxe.out, hye, hd]
   by_cases hg : Nat.gcd d q = 1
   ·have hE : invE d q = 0 := by unfold invE; rw [if_pos ok, if_pos hg]
    rw [hE] at c2
    have hnext : ∀ j, j < k + 1 → j ≠ i → Nat.gcd (subN (f i) (f j) q) q = 1 := fun j hj hn => by
     by_cases hjk : j = k
     ·rw [hjk, hD]; exact hg
     ·exact hall.out j (by omega) hn
    obtain ⟨v, hv⟩ : ∃ v, invM d q = v := ⟨_, rfl⟩
    have lv : v < q := by rw [← hv]; exact (xGn h1 ld hg).1
    obtain ⟨R0, hR0⟩ : ∃ v, ruP q f i k = v := ⟨_, rfl⟩
    have lR : R0 < q := by rw [← hR0]; exact ruP_lt h1 f i k
    obtain ⟨R1, hR1⟩ : ∃ v, ruP q f i (k + 1) = v := ⟨_, rfl⟩
    have e1 : mulN R0 v q = R1 := by rw [← hR1, ruP, if_neg hki, hR0, hD, hv]
    have c3 := fun w => xGp (p := p) (g := g) (h := h) h1 hq lR lv e1 w
    rw [hv] at c2
    replace hR := (show Rep _ _ ((b8, .cells (nl (ruP q f i k)).toArray 24) :: _) _ from hR)
    rw [hR0] at hR
    replace hR1 := Held.mk hR1
    replace hnext := Held.mk hnext
    clear hk hA hf hs hall hxx hxe hr hkn hkl hye hd ok hD hg hE hv lv hR0 lR e1 lx ly ld hki
    repeat (first | (obtain ⟨x, tm', e, ht'⟩ := xAc ht; clear ht; subst e; have ht := ht'; clear ht') | (obtain ⟨tm', e, ht'⟩ := xAa ht; clear ht; subst e; have ht := ht'; clear ht'))
    obtain rfl := xAe ht
    clear ht
    go_wp2_with (fail)
    refine' xCg hR [1, 1, 1, 1, 1, 1, 1, 1, 1, 1, 1, 1, 1, 1, 1, 2, 2, 2] 15 10 _ _ [16, 17] xBd (by kernel_rfl) rfl rfl rfl rfl rfl (xFb rfl rfl ?z1) ?_
    case z1 => exact inferInstance
    intro K hK
    clear hR
    repeat ((first | (refine' xDr rfl rfl rfl ldx ?ha ?_) | (refine' xDr rfl rfl rfl ldy ?ha ?_) | (refine xAp ?_) | (refine' xAj (by decide) rfl (.inl rfl) rfl ?ha ?_) | (refine' xBu rfl rfl rfl inferInstance ?hm ?hn ?ha ?_; (case hm => first | with_reducible assumption | repeat (first | exact .head _ | with_reducible assumption | apply mC)); (case hn => first | rfl | simp)) | ((first | refine' xAg (by decide) rfl rfl rfl rfl (fun w => ?hq) ?ha ?_ | refine' xAt (by decide) rfl rfl rfl (fun w => ?hq) ?ha ?_); (case hq => go_simp; try rfl)) | (refine' xBk rfl rfl rfl (xAi Tryz.func47 (by kernel_rfl) (by kernel_rfl) _) (fun w => c1 w) ?ha ?_) | (refine' xBk rfl rfl rfl (xAi Tryz.func107 (by kernel_rfl) (by kernel_rfl) _) (fun w => c2 w) ?ha ?_)); try (case ha => simp only [kP, kQ, kA, kB]; try rfl))
    try simp only [List.nil_append, List.cons_append]
    refine xAo (hK _ _ (fun _ => ?_))
    clear hK K
    refine xAr (fun Q hQ => ?_)
    simp only [kP, kQ, kA, kB]
    repeat ((first | refine' xBf rfl (.inr rfl) rfl ?hk ?ha ?_ | (refine' aKq ?hk ?ha ?_)); (case hk => intro p hp; repeat (first | exact hp | apply mT)); (case ha => simp only [kP, kQ, kA, kB]; try rfl))
    refine xAs (fun w hR => hQ _ _ ?_)
    clear hQ Q
    go_wp2_with (first | (refine' aNq hR ?_) | (refine' aFq hR ?_; clear hR; intro w hR) | (go_at_call 44; refine (c3 _).mono ?_; rintro e w ⟨rfl, hb⟩; replace hR := hR.call hb; clear hb))
    refine hK.out (k + 1) _ _ ⟨hk1.out, hnext.out⟩ hmu.out (xAf rfl rfl rfl) ?_
    rw [hR1.out]
    exact hR.weaken (by repeat (first | exact List.Sublist.refl _ | apply List.Sublist.cons))
   ·have hE : invE d q = 7 := by unfold invE; rw [if_pos ok, if_neg hg]
    rw [hE] at c2
    obtain rfl : s = false := by
     cases s
     ·rfl
     ·exact absurd (hD ▸ hs.out.1 rfl k hkl hki) hg
    have hr0 : (0 : Nat) = r := by have := hr.out; simpa using this
    obtain ⟨v, hv⟩ : ∃ v, invM d q = v := ⟨_, rfl⟩
    rw [hv] at c2
    have hbz : num r = Value.agg #[.int .u64 0, .int .u64 0, .int .u64 0, .int .u64 0] := by rw [← hr0]; exact xBe.symm
    generalize ruP q f i k = R0 at *
    replace hbz := Held.mk hbz
    clear hk hA hf hs hall hxx hxe hr hkn hkl hye hd ok hD hg hE hv lx ly ld hki hK hr0
    repeat (first | (obtain ⟨x, tm', e, ht'⟩ := xAc ht; clear ht; subst e; have ht := ht'; clear ht') | (obtain ⟨tm', e, ht'⟩ := xAa ht; clear ht; subst e; have ht := ht'; clear ht'))
    obtain rfl := xAe ht
    clear ht
    go_wp2_with (fail)
    refine' xCg hR [1, 1, 1, 1, 1, 1, 1, 1, 1, 1, 1, 1, 1, 1, 1, 2, 2, 2] 15 10 _ _ [16, 17] xBd (by kernel_rfl) rfl rfl rfl rfl rfl (xFb rfl rfl ?z1) ?_
    case z1 => exact inferInstance
    intro K hK
    clear hR
    repeat ((first | (refine' xDr rfl rfl rfl ldx ?ha ?_) | (refine' xDr rfl rfl rfl ldy ?ha ?_) | (refine xAp ?_) | (refine' xAj (by decide) rfl (.inl rfl) rfl ?ha ?_) | (refine' xBu rfl rfl rfl inferInstance ?hm ?hn ?ha ?_; (case hm => first | with_reducible assumption | repeat (first | exact .head _ | with_reducible assumption | apply mC)); (case hn => first | rfl | simp)) | ((first | refine' xAg (by decide) rfl rfl rfl rfl (fun w => ?hq) ?ha ?_ | refine' xAt (by decide) rfl rfl rfl (fun w => ?hq) ?ha ?_); (case hq => go_simp; try rfl)) | (refine' xBk rfl rfl rfl (xAi Tryz.func47 (by kernel_rfl) (by kernel_rfl) _) (fun w => c1 w) ?ha ?_) | (refine' xBk rfl rfl rfl (xAi Tryz.func107 (by kernel_rfl) (by kernel_rfl) _) (fun w => c2 w) ?ha ?_)); try (case ha => simp only [kP, kQ, kA, kB]; try rfl))
    try simp only [List.nil_append, List.cons_append]
    refine xAo (hK _ _ (fun _ => ?_))
    clear hK K
    refine xAr (fun Q hQ => ?_)
    simp only [kP, kQ, kA, kB]
    repeat ((first | refine' xBf rfl (.inr rfl) rfl ?hk ?ha ?_ | (refine' aKq ?hk ?ha ?_)); (case hk => intro p hp; repeat (first | exact hp | apply mT)); (case ha => simp only [kP, kQ, kA, kB]; try rfl))
    refine xAs (fun w hR => hQ _ _ ?_)
    clear hQ Q
    go_wp2_with (refine' aFq hR ?_; clear hR; intro w hR)
    (refine' bodyPost_ret (xAh Tryz.results46 rfl (hR.loadAll (P := Tryz.prog) (ty := 24) ?hm ?hn)) rfl ⟨?_, hR.weaken (by repeat (first | exact List.Sublist.refl _ | apply List.Sublist.cons))⟩; (case hm => repeat (first | exact .head _ | apply mC)); (case hn => rfl))
    rw [hbz.out]
    rfl
end
end
section
attribute [local irreducible] Calls Instr.build Instr.buildSlice
section
variable {p q g h : Nat} {B0 : Nat} {w0 w : World} {L : List (Nat × Obj)} {a : Option Addr} {n cp xv : Nat} {f : Nat → Nat}
theorem rweights_bad (hq : q < B) (hx : xv < B) (hA : NAt B0 w0 [] a n cp f) (hn : n ≤ 1000000) (hno : ¬ (ptsOK q n f ∧ xv < q)) (hR : Rep B0 w0 L w) :
  Calls Tryz.prog 12 #[grp p q g h, .slice a n cp, num xv] w fun en w' => en = .returned (.tuple #[.slice none 0 0, .int .i64 1]) ∧ Rep B0 w0 L w' := by
 classical
 have cp0 := fun (s : Bool) (hs : s = true ↔ ptsOK q n f) (L : List (Nat × Obj)) (w : World) (hw : Rep B0 w0 L w) => xJv (p := p) (g := g) (h := h) hq (hA.any (L := L)) hn s hs hw
 by_cases h1 : ptsOK q n f
 ·have cp1 := cp0 true ⟨fun _ => h1, fun _ => rfl⟩
  have cb := fun w => xDx (p := p) (g := g) (h := h) (x := xv) (b := false) hq hx ⟨fun hh => (nomatch hh), fun hh => absurd ⟨h1, hh.2⟩ hno⟩ w
  clear cp0 hno h1 hA
  go_enter Tryz.func12, Tryz.ntmps12
  go_wp2_with (first | (refine' aAq hR ?_; clear hR; intro blk w hR) | (refine' aNq hR ?_) | (refine' aVq hR ?_) | (go_at_call 45; refine (cp1 _ _ hR).mono ?_; clear hR; rintro e w ⟨rfl, hR⟩) | (go_at_call 41; refine (cb _).mono ?_; rintro e w ⟨rfl, hb⟩; replace hR := hR.call hb; clear hb))
  go_ret2
  exact ⟨rfl, hR.weaken (by repeat (first | exact List.Sublist.refl _ | apply List.Sublist.cons))⟩
 ·have cp1 := cp0 false ⟨fun hh => (nomatch hh), fun hh => absurd hh h1⟩
  clear cp0 hno h1 hA
  go_enter Tryz.func12, Tryz.ntmps12
  go_wp2_with (first | go_skip | (refine' aAq hR ?_; clear hR; intro blk w hR) | (refine' aNq hR ?_) | (go_at_call 45; refine (cp1 _ _ hR).mono ?_; clear hR; rintro e w ⟨rfl, hR⟩))
  go_ret2
  exact ⟨rfl, hR.weaken (by repeat (first | exact List.Sublist.refl _ | apply List.Sublist.cons))⟩
theorem xJs (hq : q < B) (hA : NAt B0 w0 [] a n cp f) (hn : n ≤ 1000000) (hok : ptsOK q n f) (hx : xv < q) (hR : Rep B0 w0 L w) :
  Calls Tryz.prog 12 #[grp p q g h, .slice a n cp, num xv] w fun en w' => ((∀ i, i < n → undOK q n f i) ∧ ∃ X : GrN, xCc X n (rwF q n f xv) ∧ en = .returned (.tuple #[.slice X.a n X.cap, .int .i64 0]) ∧ Rep B0 w0 (X.bl ++ L) w') ∨
   (¬ (∀ i, i < n → undOK q n f i) ∧ en = .returned (.tuple #[.slice none 0 0, .int .i64 7]) ∧ Rep B0 w0 L w') := by
 classical
 obtain ⟨hn0, hdist, h1, hf⟩ := hok
 have hxB := Nat.lt_trans hx hq
 have cp1 := fun (L : List (Nat × Obj)) (w : World) (hw : Rep B0 w0 L w) => xJv (p := p) (g := g) (h := h) hq (hA.any (L := L)) hn true ⟨fun _ => ⟨hn0, hdist, h1, hf⟩, fun _ => rfl⟩ hw
 have cb := fun w => xDx (p := p) (g := g) (h := h) (x := xv) (b := true) hq hxB ⟨fun _ => ⟨h1, hx⟩, fun _ => rfl⟩ w
 clear hdist
 replace hA := Held.mk hA
 replace hf := Held.mk hf
 replace hn0 := Held.mk hn0
 replace hx := Held.mk hx
 replace hxB := Held.mk hxB
 go_enter Tryz.func12, Tryz.ntmps12
 go_wp2_with (first | (refine' aAq hR ?_; clear hR; intro blk w hR) | (refine' aNq hR ?_) | (refine' aVq hR ?_) | (go_at_call 45; refine (cp1 _ _ hR).mono ?_; clear hR; rintro e w ⟨rfl, hR⟩) | (go_at_call 41; refine (cb _).mono ?_; rintro e w ⟨rfl, hb⟩; replace hR := hR.call hb; clear hb))
 clear cp1 cb
 obtain ⟨b5, hb5⟩ : ∃ z, z = blk := ⟨_, rfl⟩
 subst hb5
 obtain ⟨b3, hb3⟩ : ∃ z, z = blk := ⟨_, rfl⟩
 subst hb3
 try simp only [Act.put, kA, kB, List.setIfInBounds_toArray]
 refine' xAv (false :: false :: false :: false :: false :: false :: false :: false :: false :: false :: true :: true :: true :: false :: false :: false :: false :: false :: false :: false :: false :: false :: false :: true :: true :: true :: true :: true :: true :: true :: true :: true :: true :: true :: true :: true :: true :: true :: true :: true :: true :: true :: true :: true :: true :: true :: true :: true :: true :: true :: true :: true :: true :: true :: true :: true :: true :: true :: true :: true :: true :: false :: []) (fun (v : Nat × GrN) l => (l.set 8 (.slice v.2.a v.1 v.2.cap)).set 9 (.int .i64 (v.1 : Int))) (fun v => (b5, .cells (nl xv).toArray 24) :: (b3, .cells (gl p q g h).toArray 26) :: (v.2.bl ++ L)) (fun v => n - v.1) (fun v => v.1 ≤ n ∧ (∀ j, j < v.1 → undOK q n f j) ∧ xCc v.2 v.1 (rwF q n f xv)) (0, ⟨none, 0, []⟩) ?h0 ?hO ?hR ?hs
 case h0 => exact xAf rfl rfl rfl
 case hO => exact ⟨Nat.zero_le _, fun j hj => absurd hj (Nat.not_lt_zero j), xBj _⟩
 case hR => exact hR
 case hs =>
  clear hR
  intro v tm w hO ht hR K hK
  obtain ⟨i, X⟩ := v
  obtain ⟨hi, hall, hX⟩ := hO
  simp only at hi hall hX ht hR
  replace hall := Held.mk hall
  have g0 : 0 ≤ (i : Int) := by omega
  by_cases hik : i = n
  ·subst hik
   have t1 : ¬ (i : Int) < (i : Int) := by omega
   replace hX := Held.mk hX
   clear hK hi hA hf hn0 hx hxB
   repeat (first | (obtain ⟨x, tm', e, ht'⟩ := xAc ht; clear ht; subst e; have ht := ht'; clear ht') | (obtain ⟨tm', e, ht'⟩ := xAa ht; clear ht; subst e; have ht := ht'; clear ht'))
   obtain rfl := xAe ht
   clear ht
   go_wp2_with (fail)
   go_ret2
   exact .inl ⟨hall.out, X, hX.out, rfl, hR.drop1.drop1⟩
  have hin : i < n := by omega
  have g1 : (i : Int) < (n : Int) := by omega
  have ei : IntKind.i64.wrap ((i : Int) + 1) = ((i + 1 : Nat) : Int) := by rw [IntKind.wrap_i64]; omega
  have hi1 : i + 1 ≤ n := by omega
  have hmu : n - (i + 1) < n - i := by omega
  replace hi1 := Held.mk hi1
  replace hmu := Held.mk hmu
  obtain ⟨s, hs⟩ : ∃ s : Bool, s = true ↔ undOK q n f i := ⟨decide (undOK q n f i), decide_eq_true_iff⟩
  obtain ⟨r, hr⟩ : ∃ r, (if s = true then ruP q f i n else 0) = r := ⟨_, rfl⟩
  have cu := fun (L : List (Nat × Obj)) (w : World) (hw : Rep B0 w0 L w) => runder_any (p := p) (g := g) (h := h) h1 hq hf.out hA.out hn hin s hs hr hw
  cases s with
  | false =>
   have hno : ¬ (∀ i, i < n → undOK q n f i) := fun hh => by have := hs.2 (hh i hin); cases this
   replace hno := Held.mk hno
   clear hK hi hA hf hn0 hx hxB hall hX hs hr hik hin
   repeat (first | (obtain ⟨x, tm', e, ht'⟩ := xAc ht; clear ht; subst e; have ht := ht'; clear ht') | (obtain ⟨tm', e, ht'⟩ := xAa ht; clear ht; subst e; have ht := ht'; clear ht'))
   obtain rfl := xAe ht
   clear ht
   go_wp2_with (first | (refine' aBq hR ?_; clear hR; intro blk w hR) | (refine' aNq hR ?_) | (refine' aRq hR ?_; clear hR; intro w hR) | (go_at_call 46; refine (cu _ _ hR).mono ?_; clear hR; rintro e w ⟨rfl, hR⟩))
   go_ret2
   exact .inr ⟨hno.out, rfl, hR.weaken (((List.sublist_append_right _ _).cons _).cons _ |>.cons _)⟩
  | true =>
   have hnext : ∀ j, j < i + 1 → undOK q n f j := fun j hj => by
    by_cases hji : j = i
    ·rw [hji]; exact hs.1 rfl
    ·exact hall.out j (by omega)
   have hr' : ruP q f i n = r := by rw [← hr, if_pos rfl]
   have lr : r < q := by rw [← hr']; exact ruP_lt h1 f i n
   have hw0 : rwP q f i xv r 0 = r := rfl
   have hwn : rwF q n f xv i = rwP q f i xv r n := by unfold rwF; rw [hr']
   obtain ⟨bb, off, rfl, hxx⟩ := hA.out.at' (by omega)
   replace hnext := Held.mk hnext
   replace hwn := Held.mk hwn
   replace hX := Held.mk hX
   replace hxx := Held.mk hxx
   clear hs hr hr' hall hi
   repeat (first | (obtain ⟨x, tm', e, ht'⟩ := xAc ht; clear ht; subst e; have ht := ht'; clear ht') | (obtain ⟨tm', e, ht'⟩ := xAa ht; clear ht; subst e; have ht := ht'; clear ht'))
   obtain rfl := xAe ht
   clear ht
   go_wp2_with (first | (refine' aBq hR ?_; clear hR; intro blk w hR) | (refine' aNq hR ?_) | (refine' aRq hR ?_; clear hR; intro w hR) | (go_at_call 46; refine (cu _ _ hR).mono ?_; clear hR; rintro e w ⟨rfl, hR⟩))
   clear cu
   obtain ⟨b10, hb10⟩ : ∃ z, z = blk := ⟨_, rfl⟩
   subst hb10
   try simp only [Act.put, kA, kB, List.setIfInBounds_toArray]
   rw [← hw0] at hR
   refine' xAv (false :: false :: false :: false :: false :: false :: false :: false :: false :: false :: false :: false :: false :: false :: false :: false :: false :: false :: false :: false :: false :: false :: false :: false :: false :: false :: false :: false :: false :: false :: false :: false :: false :: false :: false :: false :: false :: false :: true :: true :: true :: true :: true :: true :: true :: true :: true :: true :: true :: true :: true :: true :: true :: true :: true :: true :: true :: false :: false :: false :: false :: false :: []) (fun (k : Nat) l => l.set 12 (.int .i64 (k : Int))) (fun k => (b10, .cells (nl (rwP q f i xv r k)).toArray 24) :: (b5, .cells (nl xv).toArray 24) :: (b3, .cells (gl p q g h).toArray 26) :: (X.bl ++ L)) (fun k => n - k) (fun k => k ≤ n) 0 ?i0 ?iO ?iR ?is
   case i0 => exact xAf rfl rfl rfl
   case iO => exact Nat.zero_le _
   case iR => exact hR
   case is =>
    clear hR hw0
    intro k tm w hk ht hR K2 hK2
    have k0 : 0 ≤ (k : Int) := by omega
    by_cases hkn : k = n
    ·subst hkn
     have t1 : ¬ (k : Int) < (k : Int) := by omega
     obtain ⟨W1, hW1⟩ : ∃ z, rwP q f i xv r k = z := ⟨_, rfl⟩
     have hv1 : rwF q k f xv i = W1 := by rw [hwn.out, hW1]
     replace hR := (show Rep _ _ ((b10, .cells (nl (rwP q f i xv r k)).toArray 24) :: _) _ from hR)
     rw [hW1] at hR
     have hb6 : i ≤ 1000000 := by omega
     have hX2 := hX.out
     replace hX2 := Held.mk hX2
     replace hv1 := Held.mk hv1
     clear hK2 hk hA hf hn0 hx hxB hxx lr hin hik hX hwn hW1
     repeat (first | (obtain ⟨x, tm', e, ht'⟩ := xAc ht; clear ht; subst e; have ht := ht'; clear ht') | (obtain ⟨tm', e, ht'⟩ := xAa ht; clear ht; subst e; have ht := ht'; clear ht'))
     obtain rfl := xAe ht
     clear ht
     go_wp2_with (first | (refine' aNq hR ?_) | (refine' xBz hR (xBv rfl rfl rfl) ?_; clear hR; intro bt w hR) | (refine' xBp (L' := fun l => (b10, .cells (nl W1).toArray 24) :: (b5, .cells (nl xv).toArray 24) :: (b3, .cells (gl p q g h).toArray 26) :: (l ++ L)) hR (fun l => List.perm_append_comm_assoc [_, _, _] l L) rfl rfl rfl rfl hX2.out hv1.out hb6 ?_; clear hR; intro X' w hX' hR))
     refine hK.out (i + 1, X') _ _ ⟨hi1.out, hnext.out, hX'⟩ hmu.out (xAf rfl rfl rfl) ?_
     exact hR.drop1
    have hkl : k < n := by omega
    have k1 : (k : Int) < (n : Int) := by omega
    have ek : IntKind.i64.wrap ((k : Int) + 1) = ((k + 1 : Nat) : Int) := by rw [IntKind.wrap_i64]; omega
    have hk1 : k + 1 ≤ n := by omega
    have hmk : n - (k + 1) < n - k := by omega
    replace hk1 := Held.mk hk1
    replace hmk := Held.mk hmk
    by_cases hki : k = i
    ·subst hki
     have t2 : ((k : Int) != (k : Int)) = false := by simp
     have e1 : rwP q f k xv r (k + 1) = rwP q f k xv r k := by rw [rwP, if_pos rfl]
     replace e1 := Held.mk e1
     generalize rwP q f k xv r k = R0 at *
     clear hK hk hA hf hn0 hx hxB hxx lr hX hwn hkn hkl ei
     repeat (first | (obtain ⟨x, tm', e, ht'⟩ := xAc ht; clear ht; subst e; have ht := ht'; clear ht') | (obtain ⟨tm', e, ht'⟩ := xAa ht; clear ht; subst e; have ht := ht'; clear ht'))
     obtain rfl := xAe ht
     clear ht
     go_wp2_with (fail)
     refine hK2.out (k + 1) _ _ hk1.out hmk.out (xAf rfl rfl rfl) ?_
     rw [e1.out]
     exact hR
    ·have t2 : ¬ (k : Int) = (i : Int) := by omega
     have t3 : ((k : Int) != (i : Int)) = true := by simp; omega
     have t4 : ((k : Int) == (i : Int)) = false := by simp; omega
     have ly := hf.out k hkl
     obtain ⟨y, hye⟩ : ∃ y, f k = y := ⟨_, rfl⟩
     have ldy := fun (L : List (Nat × Obj)) (w : World) (hw : Rep B0 w0 L w) => xBc (hxx.out w (hw.weaken (List.nil_sublist _)) k hkl)
     rw [hye] at ldy ly
     obtain ⟨d, hd⟩ : ∃ d, subN xv y q = d := ⟨_, rfl⟩
     have ld : d < q := by rw [← hd]; exact subN_lt h1 _ _
     have c1 := fun w => rless_lit (p := p) (g := g) (h := h) h1 hq hx.out ly hd w
     obtain ⟨R0, hR0⟩ : ∃ v, rwP q f i xv r k = v := ⟨_, rfl⟩
     have lR : R0 < q := by rw [← hR0]; exact rwP_lt h1 f i xv lr k
     obtain ⟨R1, hR1⟩ : ∃ v, rwP q f i xv r (k + 1) = v := ⟨_, rfl⟩
     have e1 : mulN R0 d q = R1 := by rw [← hR1, rwP, if_neg hki, hR0, hye, hd]
     have c2 := fun w => xGp (p := p) (g := g) (h := h) h1 hq lR ld e1 w
     replace hR := (show Rep _ _ ((b10, .cells (nl (rwP q f i xv r k)).toArray 24) :: _) _ from hR)
     rw [hR0] at hR
     replace hR1 := Held.mk hR1
     clear hK hk hA hf hn0 hx hxB hxx lr hX hwn hkn hkl hye hd hR0 lR e1 ly ld hki ei
     repeat (first | (obtain ⟨x, tm', e, ht'⟩ := xAc ht; clear ht; subst e; have ht := ht'; clear ht') | (obtain ⟨tm', e, ht'⟩ := xAa ht; clear ht; subst e; have ht := ht'; clear ht'))
     obtain rfl := xAe ht
     clear ht
     go_wp2_with (fail)
     refine xAd hR [0, 0, 0, 0, 0, 0, 0, 0, 0, 0, 2] [] xBd (by kernel_rfl) rfl rfl (fun K hK => ?_)
     clear hR
     repeat ((first | (refine xAp ?_) | (refine' xAj (by decide) rfl (.inl rfl) rfl ?ha ?_) | (refine' aOq ?ha ?_) | ((refine' xAg (by decide) rfl rfl rfl rfl (fun w => ?hq) ?ha ?_); (case hq => go_simp; try rfl)) | (refine' xAn rfl rfl rfl (ldy _) ?ha ?_; (case ha => simp only [kP, kQ, kA, kB]; try rfl)) | (refine' xAk rfl rfl rfl (xAi Tryz.func47 (by kernel_rfl) (by kernel_rfl) _) (fun w => c1 w) ?ha ?_) | (refine' xAk rfl rfl rfl (xAi Tryz.func44 (by kernel_rfl) (by kernel_rfl) _) (fun w => c2 w) ?ha ?_)); try (case ha => simp only [kP, kQ, kA, kB]; try rfl))
     refine xAo (hK _ _ ?_)
     clear hK K
     refine xAr (fun Q hQ => ?_)
     try simp only [List.nil_append, List.cons_append]
     repeat ((refine' aTq ?hk ?ha ?_); (case hk => intro p hp; first | exact absurd hp List.not_mem_nil | (obtain rfl := List.mem_singleton.1 hp; repeat (first | exact List.Mem.head _ | with_reducible assumption | apply mC))); (case ha => simp only [kP, kQ, kA, kB]; try rfl))
     refine xAs (fun w hR => hQ _ _ ?_)
     clear hQ Q
     go_wp2_with (fail)
     refine hK2.out (k + 1) _ _ hk1.out hmk.out (xAf rfl rfl rfl) ?_
     rw [hR1.out]
     exact hR
end
end
end Go.Proofs.YtaaahfjpnggkbaaGreatDoor
