import Derived.Test.YtaaahfjpnggkbaaGreatDoorZRef09
import Derived.Test.YtaaahfjpnggkbaaGreatDoorZZ
set_option linter.unusedSimpArgs false
set_option linter.unusedVariables false
set_option maxRecDepth 100000
set_option maxHeartbeats 20000000
namespace Go.Proofs.YtaaahfjpnggkbaaGreatDoor
open Go.RowKit
attribute [local irreducible] Calls Instr.build Instr.buildSlice
section
variable {p q g h x y r : Nat}
theorem xFt {b : Bool} (hq : q < B) (ha : x < B) (hb : b = true ↔ 1 < q ∧ x < q) (w : World) : Calls Tryz.prog 41 #[grp p q g h, num x] w fun e' w' => e' = .returned (.bool b) ∧ Below w.heap.size w w' := by
 have a1 := fun w => rsadd_any (p := p) (g := g) (h := h) ha ha hq w
 cases b
 ·have hn : ¬ okM x x q := fun h => by have := hb.2 ⟨h.1, h.2.1⟩; cases this
  rw [if_neg hn, if_neg hn] at a1
  clear hn hb
  have hR := Rep.init w
  go_enter Tryz.func41, Tryz.ntmps41
  go_wp2_with (first | (refine' aAq hR ?_; clear hR; intro blk w hR) | (refine' aBq hR ?_; clear hR; intro blk w hR) | (refine' aPq hR ?_) | (refine' aQq hR ?_) | (refine' aFq hR ?_; clear hR; intro w hR) | (go_at_call 129; refine (a1 _).mono ?_; rintro e w ⟨rfl, hb⟩; replace hR := hR.call hb; clear hb))
  go_ret
  exact ⟨rfl, hR.below⟩
 ·have hn : okM x x q := ⟨(hb.1 rfl).1, (hb.1 rfl).2, (hb.1 rfl).2⟩
  rw [if_pos hn, if_pos hn] at a1
  generalize (x + x) % q = z at *
  clear hn hb
  have hR := Rep.init w
  go_enter Tryz.func41, Tryz.ntmps41
  go_wp2_with (first | (refine' aAq hR ?_; clear hR; intro blk w hR) | (refine' aBq hR ?_; clear hR; intro blk w hR) | (refine' aPq hR ?_) | (refine' aQq hR ?_) | (refine' aFq hR ?_; clear hR; intro w hR) | (go_at_call 129; refine (a1 _).mono ?_; rintro e w ⟨rfl, hb⟩; replace hR := hR.call hb; clear hb))
  go_ret
  exact ⟨rfl, hR.below⟩
theorem rplus_lit (h1 : 1 < q) (hq : q < B) (ha : x < q) (hb : y < q) (hr : (x + y) % q = r) (w : World) : Calls Tryz.prog 43 #[grp p q g h, num x, num y] w fun e' w' => e' = .returned (num r) ∧ Below w.heap.size w w' := by
 have c1 := fun w => rsadd_any (p := p) (g := g) (h := h) (Nat.lt_trans ha hq) (Nat.lt_trans hb hq) hq w
 rw [if_pos (show okM x y q from ⟨h1, ha, hb⟩), if_pos (show okM x y q from ⟨h1, ha, hb⟩), hr] at c1
 clear ha hb hr h1
 have hR := Rep.init w
 go_enter Tryz.func43, Tryz.ntmps43
 go_wp2_with (first | (refine' aAq hR ?_; clear hR; intro blk w hR) | (refine' aBq hR ?_; clear hR; intro blk w hR) | (refine' aPq hR ?_) | (refine' aQq hR ?_) | (refine' aFq hR ?_; clear hR; intro w hR) | (go_at_call 129; refine (c1 _).mono ?_; rintro e w ⟨rfl, hb⟩; replace hR := hR.call hb; clear hb))
 (refine' bodyPost_ret (xBc Tryz.results43 rfl (hR.loadAll (P := Tryz.prog) (ty := 24) ?hm ?hn)) rfl ⟨?_, hR.below⟩; (case hm => first | with_reducible assumption | repeat (first | exact .head _ | with_reducible assumption | apply mC)); (case hn => first | rfl | simp))
 rfl
theorem rtimes_lit (h1 : 1 < q) (hq : q < B) (ha : x < q) (hb : y < q) (hr : mulN x y q = r) (w : World) : Calls Tryz.prog 44 #[grp p q g h, num x, num y] w fun e' w' => e' = .returned (num r) ∧ Below w.heap.size w w' := by
 have c1 := fun w => rsmul_any (p := p) (g := g) (h := h) (Nat.lt_trans ha hq) (Nat.lt_trans hb hq) hq w
 rw [if_pos (show okM x y q from ⟨h1, ha, hb⟩), if_pos (show okM x y q from ⟨h1, ha, hb⟩), hr] at c1
 clear ha hb hr h1
 have hR := Rep.init w
 go_enter Tryz.func44, Tryz.ntmps44
 go_wp2_with (first | (refine' aAq hR ?_; clear hR; intro blk w hR) | (refine' aBq hR ?_; clear hR; intro blk w hR) | (refine' aPq hR ?_) | (refine' aQq hR ?_) | (refine' aFq hR ?_; clear hR; intro w hR) | (go_at_call 108; refine (c1 _).mono ?_; rintro e w ⟨rfl, hb⟩; replace hR := hR.call hb; clear hb))
 (refine' bodyPost_ret (xBc Tryz.results44 rfl (hR.loadAll (P := Tryz.prog) (ty := 24) ?hm ?hn)) rfl ⟨?_, hR.below⟩; (case hm => first | with_reducible assumption | repeat (first | exact .head _ | with_reducible assumption | apply mC)); (case hn => first | rfl | simp))
 rfl
end
section
variable {p q g h : Nat} {B0 : Nat} {w0 w : World} {L : List (Nat × Obj)} {a : Option Addr} {n cp : Nat} {f : Nat → Nat}
theorem rall_any (hq : q < B) (hA : NAt B0 w0 L a n cp f) (hn : n ≤ 1000000) (s : Bool) (hs : s = true ↔ 1 < q ∧ ∀ j, j < n → f j < q) (hR : Rep B0 w0 L w) :
  Calls Tryz.prog 40 #[grp p q g h, .slice a n cp] w fun en w' => en = .returned (.bool s) ∧ Rep B0 w0 L w' := by
 classical
 obtain ⟨n0, h0⟩ : ∃ n, n = 0 := ⟨_, rfl⟩
 have L0 : n0 < B := lt_B (by omega)
 by_cases h1 : 1 < q
 case neg =>
  obtain rfl : s = false := by
   cases s
   ·rfl
   ·exact absurd (hs.1 rfl).1 h1
  have b0 := fun w => xFt (p := p) (g := g) (h := h) (b := false) hq L0 ⟨fun h => (by cases h), fun h => absurd h.1 h1⟩ w
  rw [show num n0 = Value.agg #[.int .u64 0, .int .u64 0, .int .u64 0, .int .u64 0] by rw [h0]; exact xBn.symm] at b0
  clear hA hs h1 h0 L0
  go_enter Tryz.func40, Tryz.ntmps40
  go_wp2_with (first | (refine' aAq hR ?_; clear hR; intro blk w hR) | (refine' aBq hR ?_; clear hR; intro blk w hR) | (refine' aPq hR ?_) | (refine' aQq hR ?_) | (refine' aFq hR ?_; clear hR; intro w hR) | (go_at_call 41; refine (b0 _).mono ?_; rintro e w ⟨rfl, hb⟩; replace hR := hR.call hb; clear hb))
  go_ret
  exact ⟨rfl, hR.drop1⟩
 have b0 := fun w => xFt (p := p) (g := g) (h := h) (b := true) hq L0 ⟨fun _ => ⟨h1, by omega⟩, fun _ => rfl⟩ w
 rw [show num n0 = Value.agg #[.int .u64 0, .int .u64 0, .int .u64 0, .int .u64 0] by rw [h0]; exact xBn.symm] at b0
 have bl := fun (x : Nat) (hx : x < B) (b : Bool) (hb : b = true ↔ x < q) (w : World) => xFt (p := p) (g := g) (h := h) (b := b) hq hx (hb.trans ⟨fun hh => ⟨h1, hh⟩, fun hh => hh.2⟩) w
 have hs' : s = true ↔ ∀ j, j < n → f j < q := hs.trans ⟨fun hh => hh.2, fun hh => ⟨h1, hh⟩⟩
 replace hs' := Held.mk hs'
 replace hA := Held.mk hA
 clear hs h1 h0 L0
 go_enter Tryz.func40, Tryz.ntmps40
 go_wp2_with (first | (refine' aAq hR ?_; clear hR; intro blk w hR) | (refine' aBq hR ?_; clear hR; intro blk w hR) | (refine' aPq hR ?_) | (refine' aQq hR ?_) | (refine' aFq hR ?_; clear hR; intro w hR) | (go_at_call 41; refine (b0 _).mono ?_; rintro e w ⟨rfl, hb⟩; replace hR := hR.call hb; clear hb))
 try simp only [Act.put, kA, kB, List.setIfInBounds_toArray]
 refine' xEd hR (false :: false :: false :: false :: false :: false :: false :: false :: false :: false :: true :: true :: true :: true :: true :: true :: true :: true :: true :: true :: true :: true :: true :: []) (fun (i : Nat) l => l.set 5 (.int .i64 (i : Int))) (fun i => n - i) (fun i => i ≤ n ∧ ∀ k, k < i → f k < q) 0 ?h0 ?hO ?hs
 case h0 => exact xAn rfl rfl rfl
 case hO => exact ⟨Nat.zero_le _, fun j hj => absurd hj (Nat.not_lt_zero j)⟩
 case hs =>
  clear hR b0
  intro i tm w hi ht hR K hK
  obtain ⟨hi, hall⟩ := hi
  replace hall := Held.mk hall
  have g0 : 0 ≤ (i : Int) := by omega
  by_cases hik : i = n
  ·subst hik
   have t1 : ¬ (i : Int) < (i : Int) := by omega
   obtain rfl : s = true := hs'.out.2 hall.out
   clear hK hi hA hs' hall bl
   repeat (first | (obtain ⟨x, tm', e, ht'⟩ := xAg ht; clear ht; subst e; have ht := ht'; clear ht') | (obtain ⟨tm', e, ht'⟩ := xAd ht; clear ht; subst e; have ht := ht'; clear ht'))
   obtain rfl := xAl ht
   clear ht
   go_wp2_with (first | (refine' aAq hR ?_; clear hR; intro blk w hR) | (refine' aBq hR ?_; clear hR; intro blk w hR) | (refine' aPq hR ?_) | (refine' aQq hR ?_) | (refine' aFq hR ?_; clear hR; intro w hR) | fail)
   go_ret
   exact ⟨rfl, hR.drop1⟩
  ·have hin : i < n := by omega
   have g1 : (i : Int) < (n : Int) := by omega
   obtain ⟨bb, off, rfl, hx⟩ := hA.out.at' (by omega)
   have lf := hA.out.lt i hin
   have ld := fun (b3 : Nat) (w : World) (hw : Rep B0 w0 ((b3, .cells (gl p q g h).toArray 26) :: L) w) => xBt (hx w hw.drop1 i hin)
   obtain ⟨x, hxe⟩ : ∃ x, f i = x := ⟨_, rfl⟩
   rw [hxe] at ld lf
   by_cases hxq : x < q
   ·have b1 := bl x lf true ⟨fun _ => hxq, fun _ => rfl⟩
    have hnext : ∀ k, k < i + 1 → f k < q := fun k hk => by
     by_cases hki : k = i
     ·rw [hki, hxe]; exact hxq
     ·exact hall.out k (by omega)
    have ei : IntKind.i64.wrap ((i : Int) + 1) = ((i + 1 : Nat) : Int) := by rw [IntKind.wrap_i64]; omega
    have hi1 : i + 1 ≤ n := by omega
    have hmu : n - (i + 1) < n - i := by omega
    replace hi1 := Held.mk hi1
    replace hmu := Held.mk hmu
    replace hnext := Held.mk hnext
    clear hi hA hik hin hx hxe hall lf hs' hxq bl
    repeat (first | (obtain ⟨x, tm', e, ht'⟩ := xAg ht; clear ht; subst e; have ht := ht'; clear ht') | (obtain ⟨tm', e, ht'⟩ := xAd ht; clear ht; subst e; have ht := ht'; clear ht'))
    obtain rfl := xAl ht
    clear ht
    go_wp2_with (first | (refine' aAq hR ?_; clear hR; intro blk w hR) | (refine' aBq hR ?_; clear hR; intro blk w hR) | (refine' aPq hR ?_) | (refine' aQq hR ?_) | (refine' aFq hR ?_; clear hR; intro w hR) | fail)
    refine xAe hR [0, 0, 0, 0, 0, 0, 0] [] xBo (by kernel_rfl) rfl rfl (fun K hK => ?_)
    clear hR
    repeat ((first | (refine xAy ?_) | (refine' xAk (by decide) rfl (.inl rfl) rfl ?ha ?_) | (refine' xAk (by decide) rfl (.inr rfl) rfl ?ha ?_) | (refine' aSq ?ha ?_) | (refine' aTq ?ha ?_) | (refine' aUq ?ha ?_) | (refine' aVq ?ha ?_) | (refine' aWq ?ha ?_) | ((first | refine' xAc (by decide) rfl rfl rfl rfl (fun w => ?hq) ?ha ?_ | refine' xAs (by decide) rfl rfl rfl rfl (fun w => ?hq) ?ha ?_ | refine' xAi (by decide) rfl rfl rfl (fun w => ?hq) ?ha ?_ | refine' xAb (by decide) rfl rfl rfl (fun w => ?hq) ?ha ?_ | refine' xAh (by decide) rfl rfl rfl (fun w => ?hq) ?ha ?_ | refine' xAq (by decide) rfl rfl rfl rfl (fun w => ?hq) ?ha ?_ | refine' xAr (by decide) rfl rfl rfl rfl rfl rfl (fun w => ?hq) ?ha ?_ | refine' xAo (by decide) rfl rfl (fun w => ?hq) ?ha ?_ | refine' xAj (by decide) rfl rfl rfl (fun w => ?hq) ?ha ?_ | refine' xAp (by decide) rfl rfl rfl (fun w => ?hq) ?ha ?_); (case hq => go_simp; try rfl)) | (refine' xAf (by decide) rfl rfl rfl ?ha ?_) | (refine' xAx (by decide) rfl rfl rfl rfl ?ha ?_) | (refine' xAw (by decide) rfl ?ha ?_) | (refine' xBl rfl rfl rfl (ld _) ?ha ?_; (case ha => simp only [kP, kQ, kA, kB]; try rfl)) | (refine' xAt rfl rfl rfl (xAv Tryz.func41 (by kernel_rfl) (by kernel_rfl) _) (fun w => b1 w) ?ha ?_) | (refine' xFi (by decide) rfl rfl rfl (fun w => ?hq) ?ha ?_; (case hq => go_simp; try rfl); (case ha => simp only [kP, kQ, kA, kB]; try rfl))); try (case ha => simp only [kP, kQ, kA, kB]; try rfl))
    refine xBb (hK _ _ ?_)
    clear hK K
    refine xBe (fun Q hQ => ?_)
    try simp only [List.nil_append, List.cons_append]
    repeat ((first | refine' xAm rfl (.inl rfl) rfl ?hk ?ha ?_ | refine' xAm rfl (.inr rfl) rfl ?hk ?ha ?_ | (refine' aMq ?hk ?ha ?_) | (refine' aNq ?hk ?ha ?_) | (refine' aOq ?hk ?ha ?_) | (refine' xAz rfl (fun w => ?hq) ?hk ?ha ?_; (case hq => go_simp; try rfl))); (case hk => intro p hp; first | exact absurd hp List.not_mem_nil | (obtain rfl := List.mem_singleton.1 hp; repeat (first | exact List.Mem.head _ | with_reducible assumption | apply mC))); (case ha => simp only [kP, kQ, kA, kB]; try rfl))
    refine xBd (fun w hR => hQ _ _ ?_)
    clear hQ Q
    go_wp2_with (first | (refine' aAq hR ?_; clear hR; intro blk w hR) | (refine' aBq hR ?_; clear hR; intro blk w hR) | (refine' aPq hR ?_) | (refine' aQq hR ?_) | (refine' aFq hR ?_; clear hR; intro w hR) | fail)
    exact hK.out (i + 1) _ _ ⟨hi1.out, hnext.out⟩ hmu.out (xAn rfl rfl rfl) hR
   ·have b1 := bl x lf false ⟨fun h => (by cases h), fun h => absurd h hxq⟩
    obtain rfl : s = false := by
     cases s
     ·rfl
     ·exact absurd (hxe ▸ hs'.out.1 rfl i hin) hxq
    clear hK hi hA hik hin hx hxe hall lf hs' hxq bl
    repeat (first | (obtain ⟨x, tm', e, ht'⟩ := xAg ht; clear ht; subst e; have ht := ht'; clear ht') | (obtain ⟨tm', e, ht'⟩ := xAd ht; clear ht; subst e; have ht := ht'; clear ht'))
    obtain rfl := xAl ht
    clear ht
    go_wp2_with (first | (refine' aAq hR ?_; clear hR; intro blk w hR) | (refine' aBq hR ?_; clear hR; intro blk w hR) | (refine' aPq hR ?_) | (refine' aQq hR ?_) | (refine' aFq hR ?_; clear hR; intro w hR) | fail)
    refine xAe hR [0, 0, 0, 0, 0, 0, 0] [] xBo (by kernel_rfl) rfl rfl (fun K hK => ?_)
    clear hR
    repeat ((first | (refine xAy ?_) | (refine' xAk (by decide) rfl (.inl rfl) rfl ?ha ?_) | (refine' xAk (by decide) rfl (.inr rfl) rfl ?ha ?_) | (refine' aSq ?ha ?_) | (refine' aTq ?ha ?_) | (refine' aUq ?ha ?_) | (refine' aVq ?ha ?_) | (refine' aWq ?ha ?_) | ((first | refine' xAc (by decide) rfl rfl rfl rfl (fun w => ?hq) ?ha ?_ | refine' xAs (by decide) rfl rfl rfl rfl (fun w => ?hq) ?ha ?_ | refine' xAi (by decide) rfl rfl rfl (fun w => ?hq) ?ha ?_ | refine' xAb (by decide) rfl rfl rfl (fun w => ?hq) ?ha ?_ | refine' xAh (by decide) rfl rfl rfl (fun w => ?hq) ?ha ?_ | refine' xAq (by decide) rfl rfl rfl rfl (fun w => ?hq) ?ha ?_ | refine' xAr (by decide) rfl rfl rfl rfl rfl rfl (fun w => ?hq) ?ha ?_ | refine' xAo (by decide) rfl rfl (fun w => ?hq) ?ha ?_ | refine' xAj (by decide) rfl rfl rfl (fun w => ?hq) ?ha ?_ | refine' xAp (by decide) rfl rfl rfl (fun w => ?hq) ?ha ?_); (case hq => go_simp; try rfl)) | (refine' xAf (by decide) rfl rfl rfl ?ha ?_) | (refine' xAx (by decide) rfl rfl rfl rfl ?ha ?_) | (refine' xAw (by decide) rfl ?ha ?_) | (refine' xBl rfl rfl rfl (ld _) ?ha ?_; (case ha => simp only [kP, kQ, kA, kB]; try rfl)) | (refine' xAt rfl rfl rfl (xAv Tryz.func41 (by kernel_rfl) (by kernel_rfl) _) (fun w => b1 w) ?ha ?_) | (refine' xFi (by decide) rfl rfl rfl (fun w => ?hq) ?ha ?_; (case hq => go_simp; try rfl); (case ha => simp only [kP, kQ, kA, kB]; try rfl))); try (case ha => simp only [kP, kQ, kA, kB]; try rfl))
    refine xBb (hK _ _ ?_)
    clear hK K
    refine xBe (fun Q hQ => ?_)
    try simp only [List.nil_append, List.cons_append]
    repeat ((first | refine' xAm rfl (.inl rfl) rfl ?hk ?ha ?_ | refine' xAm rfl (.inr rfl) rfl ?hk ?ha ?_ | (refine' aMq ?hk ?ha ?_) | (refine' aNq ?hk ?ha ?_) | (refine' aOq ?hk ?ha ?_) | (refine' xAz rfl (fun w => ?hq) ?hk ?ha ?_; (case hq => go_simp; try rfl))); (case hk => intro p hp; first | exact absurd hp List.not_mem_nil | (obtain rfl := List.mem_singleton.1 hp; repeat (first | exact List.Mem.head _ | with_reducible assumption | apply mC))); (case ha => simp only [kP, kQ, kA, kB]; try rfl))
    refine xBd (fun w hR => hQ _ _ ?_)
    clear hQ Q
    go_wp2_with (first | (refine' aAq hR ?_; clear hR; intro blk w hR) | (refine' aBq hR ?_; clear hR; intro blk w hR) | (refine' aPq hR ?_) | (refine' aQq hR ?_) | (refine' aFq hR ?_; clear hR; intro w hR) | fail)
    go_ret
    exact ⟨rfl, hR.drop1⟩
end
end Go.Proofs.YtaaahfjpnggkbaaGreatDoor
